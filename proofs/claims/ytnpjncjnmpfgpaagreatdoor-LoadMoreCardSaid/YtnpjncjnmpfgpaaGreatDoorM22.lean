/-
  Lemmas about the program and the machine (C53 to C49), upon which the last text of this claim rests; no condition.
-/
import Derived.Test.YtnpjncjnmpfgpaaGreatDoorCards
import Derived.Test.YtnpjncjnmpfgpaaGreatDoorTie
import Derived.ProofKit
import Derived.LaidMore
import Derived.OpenShut
import Derived.Stop.Joined
import Derived.Conc.Holds
import Derived.Conc.LeavingOf
import Derived.SevenTiedAt
import Derived.ChangeCalls
import Derived.Deep.SlicePairs
import Derived.ChangeSlices
import Derived.WideShapes
import Derived.Deep.Slices
import Derived.ChangeArms
import Derived.Deep.RegionWith
import Derived.Test.YtnpjncjnmpfgpaaGreatDoorM21
import Derived.Test.YtnpjncjnmpfgpaaGreatDoorM12
import Derived.Test.YtnpjncjnmpfgpaaGreatDoorM13
import Derived.Test.YtnpjncjnmpfgpaaGreatDoorM14
set_option linter.unusedSimpArgs false
set_option linter.unusedVariables false
section
namespace Go.Proofs.YtnpjncjnmpfgpaaGreatDoor
open Go Go.Conc Go.Sim Go.Load Go.RowKit Go.ChangeShapes Go.WideShapes Go.ChangeAt
open Go.Proofs.Tryz
abbrev laidAll:List (String×DataW Unit):=[("baudot/load.checks",Rows.laid_baudot_load_checks),("baudot/load.nothing",Rows.laid_baudot_load_nothing)]
theorem ownK:ownKnob Tryz.prog.godebug=none:=by kernel_rfl
theorem gNothing:Tryz.prog.globalNamed "baudot/load.nothing"=some 1:=by kernel_rfl
theorem gChecks:Tryz.prog.globalNamed "baudot/load.checks"=some 0:=by kernel_rfl
theorem tNothing:(Tryz.prog.globals[1]?).map (·.type)=some 72:=by kernel_rfl
theorem tChecks:(Tryz.prog.globals[0]?).map (·.type)=some 78:=by kernel_rfl
theorem cInt:Tryz.prog.cellsOf 3=1:=by kernel_rfl
theorem cFn:Tryz.prog.cellsOf 77=1:=by kernel_rfl
theorem cPart:Tryz.prog.cellsOf 72=2:=by kernel_rfl
theorem cTab:Tryz.prog.cellsOf 78=2:=by kernel_rfl
theorem qdn {P:Program} {w:World} {n:String} {g:Nat} {cs:Array Value} (hg:P.globalNamed n=some g) (h:w.var? P n=some cs):∃e f,w.heap[g]? = some (.cells cs e f):=by
 simp only [World.var?,hg,Option.bind_some] at h
 split at h
 ·rename_i c e f he
  cases h
  exact ⟨_,_,he⟩
 ·cases h
theorem qbe {cs:Array Value} (h:cs.toList.length=2):∃x y,cs=#[x,y]:=by
 obtain ⟨l⟩:=cs
 match l,h with
 | [x,y],_=>exact ⟨x,y,rfl⟩
set_option maxRecDepth 100000 in
theorem of_laid {W:World} (h:laidMetH Tryz.prog laidAll W):∃e0 e1 f0 f1,W.heap[1]? = some (.cells #[.int .i64 0,.int .i64 1] e0 f0)∧W.heap[0]? = some (.cells #[fnum,fgrp] e1 f1):=by
 have h1:=h.funcs (List.mem_cons_self ..)
 obtain ⟨g,t,cs,fuel,p,hg,ht,hv,hd⟩:=h1
 obtain rfl:=Option.some.inj (gChecks.symm.trans hg)
 obtain rfl:=Option.some.inj (tChecks.symm.trans ht)
 have h2:laidMet Tryz.prog [("baudot/load.nothing",Rows.laid_baudot_load_nothing)] W:=by
  have h':laidMet Tryz.prog (laidAll.filter fun x=>x.2.handleName?.isNone) W:=h.1
  exact h'
 obtain ⟨ps,⟨g0,t0,cs0,fl0,p0,q0,hg0,ht0,hv0,hd0,_⟩,_,_⟩:=h2
 obtain rfl:=Option.some.inj (gNothing.symm.trans hg0)
 obtain rfl:=Option.some.inj (tNothing.symm.trans ht0)
 obtain ⟨e0,f0,hh0⟩:=qdn hg0 hv0
 obtain ⟨e1,f1,hh1⟩:=qdn hg hv
 obtain ⟨xs,m,rfl,hx,hl,hn,hel⟩:=DataW.trod_array Tryz.underlying78 hd
 obtain ⟨ys,m0,rfl,hy,hl0,hn0,hel0⟩:=DataW.trod_struct Tryz.underlying72 hd0
 rw [cTab] at hl
 rw [cPart] at hl0
 obtain ⟨c0,c1,rfl⟩:=qbe hl
 obtain ⟨d0,d1,rfl⟩:=qbe hl0
 have k0:=hel 0 (by decide)
 have k1:=hel 1 (by decide)
 rw [cFn] at k0 k1
 have j0:=hel0 0 _ rfl
 have j1:=hel0 1 _ rfl
 match xs,hn,hx,k0,k1 with
 | [x0,x1],_,hx,k0,k1 =>
 match ys,hn0,hy,j0,j1 with
 | [y0,y1],_,hy,j0,j1 =>
   have hx':(DataW.agg [.held [40,98,97,117,100,111,116,47,108,111,97,100,46,98,111,111,107,41,46,110,117,109,98,101,114,115],.held [40,98,97,117,100,111,116,47,108,111,97,100,46,98,111,111,107,41,46,103,114,111,117,112,115]]:DataW (List UInt8))=.agg [x0.1,x1.1]:=congrArg Prod.fst hx
   have hy':(DataW.agg [.lit (.int .i64 0),.lit (.int .i64 1)]:DataW Unit)=.agg [y0.1,y1.1]:=congrArg Prod.fst hy
   simp only [DataW.agg.injEq,List.cons.injEq,and_true] at hx' hy'
   obtain ⟨x0,q0⟩:=x0
   obtain ⟨x1,q1⟩:=x1
   obtain ⟨rfl,rfl⟩:=hx'
   obtain ⟨y0,r0⟩:=y0
   obtain ⟨y1,r1⟩:=y1
   obtain ⟨rfl,rfl⟩:=hy'
   have e0':=func_of_trod (f0:=150) Tryz.underlying77 (by kernel_rfl) (show DataW.trod (funcToken Tryz.prog) Tryz.prog W 0 (fun _=>true) true m 77 [c0]=_ from k0)
   have e1':=func_of_trod (f0:=151) Tryz.underlying77 (by kernel_rfl) (show DataW.trod (funcToken Tryz.prog) Tryz.prog W 0 (fun _=>true) true m 77 [c1]=_ from k1)
   subst e0' e1'
   have j0':DataW.trod _ Tryz.prog W 0 _ _ m0 3 ((#[d0,d1].toList.drop 0).take (Tryz.prog.cellsOf 3))=some (.lit (.int .i64 0),r0):=j0
   have j1':DataW.trod _ Tryz.prog W 0 _ _ m0 3 ((#[d0,d1].toList.drop 1).take (Tryz.prog.cellsOf 3))=some (.lit (.int .i64 1),r1):=j1
   rw [cInt] at j0' j1'
   obtain ⟨n0,a0,b0,_⟩:=DataW.trod_int Tryz.underlying3 j0'
   obtain ⟨n1,a1,b1,_⟩:=DataW.trod_int Tryz.underlying3 j1'
   simp at a0 a1 b0 b1
   obtain ⟨rfl,_⟩:=b0
   obtain ⟨rfl,_⟩:=b1
   subst a0 a1
   exact ⟨e0,e1,f0,f1,hh0,hh1⟩
theorem kept_of {w w':World} (h1:w'.os=w.os) (h2:w'.output=w.output) (h3:∀k,k < w.heap.size→w'.heap[k]? = w.heap[k]?) (may:MemPlace→Prop):w.keptBut w' may:=by
 refine ⟨h1,h2,fun i hi=>?_⟩
 rw [h3 i hi]
 rcases w.heap[i]? with _ | o
 ·rfl
 ·cases o <;> simp
theorem qgQ (Lk:Looks) {p:Pinned} {s:OpenSpec} {c:OpenClaim} (al:List (List PathCond)) (kinds:List LaidKind) (tests:Bool) (har:Bool×String) (lk:Bool)
 (hc:c.holds p s) (hal:∀D∈al,(c.withDomain D).holds p s) (hw:c.wfByText s=true) (hwal:∀D∈al,(c.withDomain D).wfByText s=true)
 (htie:c.laidByTextAt Lk p kinds tests)
 (hst:c.start=.entering) (hnb:c.noBlocks=false∧c.again=false) (hm:p.checked.prog.mainIs=some (har.1,har.2.toList)) (hn:(!har.1 && har.2.isEmpty && !lk)=false)
 (hl:∀f fn,p.checked.prog.funcNamed c.func=some f→p.checked.prog.funcs[f]? = some fn→lk=p.checked.prog.looks []∧∀(j:Nat) t,fn.params[j]? = some t→p.checked.prog.wantsStandIn t=false)
 (hg:true=c.goesBy p.checked.prog) :
 Claim7.holds p (.plain s) { stood:={ row:=c,standIns:=[],harness:=har,looks:=lk },kinds:=[],alts:=al,goes:=true,laidByText:=true,laidKinds:=kinds,laidTests:=tests,laidLooks:=Lk }:=by
 have h6:∀r:OpenClaim,Claim7.isSixth { stood:={ row:=r,standIns:=[],harness:=har,looks:=lk },kinds:=[] }=false:=fun r=>by simpa [Claim7.isSixth] using hn
 refine ⟨Claim7.tied_new_at Lk kinds tests (Claim7.new_of_sixth hc har lk hst hnb hm (h6 c) hl) hw,fun D hD=>?_,htie,(fun h=>by cases h),hg⟩
 exact Claim7.tied_new_at Lk kinds tests (Claim7.new_of_sixth (hal D hD) har lk hst hnb hm (h6 _) hl) (hwal D hD)
set_option maxRecDepth 100000 in
theorem door_met (os:Os) (args:Array Value):laidMetH Tryz.prog laidAll ((World.doorLaid Tryz.prog 19 os).forCall (fun _ _=>0) ⟨#[],args,[]⟩).memory :=
 laidMetH_of_parts3 (fuel:=8) (laidMet_of_run' 8 (by kernel_rfl) (by kernel_rfl)) (by kernel_rfl) (by kernel_rfl)
end Go.Proofs.YtnpjncjnmpfgpaaGreatDoor
end
section
namespace Go.Proofs.YtnpjncjnmpfgpaaGreatDoor
open Go Go.Conc Go.Sim Go.Load Go.RowKit Go.ChangeShapes Go.WideShapes Go.ChangeAt
open Go.Proofs.Tryz
set_option maxRecDepth 100000 in
theorem qcj:∀t e,t < Tryz.prog.types.size→Tryz.prog.underlying t=some (.slice e)→0 < Tryz.prog.cellsOf e:=slices_full_of Tryz.prog (by kernel_rfl)
set_option maxRecDepth 100000 in
theorem kids_all:Kids Tryz.prog (· < Tryz.prog.types.size):=kids_rows (by kernel_rfl) (by kernel_rfl)
def qcs {H:Type} (enc:TypeId×Value→H) (fn:Func) (W:World) (args:Array Value) (ds:List (DataW H)):Prop :=
 ∃p r b0,args.size=fn.params.size∧DataW.TrodAll enc Tryz.prog W 0 (fun _=>true) true fn.params.toList args.toList ds p∧∀(j:Nat) (t:TypeId) v,fn.params[j]? = some t→args[j]? = some v→Value.okWide Tryz.prog W r b0 t v
def qcx (f:FuncId) (W:World) (args:Array Value):Prop :=
 ∃X:Nat→Prop,(∀b,X b→∃c e f,W.heap[b]? = some (.cells c e f))∧(∀(C:FuncId→Prop) (R:Nat→Nat→Prop),(∀b,X b→R b b)→AR C R args args) ∧
  ∀w,Globs w→(∀b o v,X b→W.cell? ⟨b,o,none⟩=some v→PlainX X v→w.cell? ⟨b,o,none⟩=some v)→Calls qg f args w fun e w'=>e=.returned (.bool true)∧Below w.heap.size w w'
set_option maxRecDepth 100000 in
theorem law_at {f:FuncId} {fn:Func} {s:ChangeSpec} (os:Os) (started:os.Started) (H:Type) (enc:TypeId×Value→H) (hfn:Tryz.prog.funcs[f]? = some fn) (hres:fn.resultTypes=#[4]) (hvars:s.vars=[])
 (hspec:∀ds:List (DataW H),ds.length=fn.params.size→s.fn H ds={ results:=[.lit (.bool true)],args:=ds }) (hpar:∀t∈fn.params.toList,t < Tryz.prog.types.size) (hf:cB f=true) (hne:f≠15)
 (hC:∀W args ds,qcs enc fn W args ds→qcx f W args)
 (witness:∃(w:World) (tape:Tape) (i:Input),w.os=os∧(w.forCall tape i).Shaped Tryz.checked.prog∧i.vars=[]∧Input.okWide Tryz.checked.prog (w.forCall tape i) .any w.heap.size f i ∧
   ((s.pre enc Tryz.checked.prog fn [] false (w.forCall tape i).memory i.args∧laidMetH Tryz.checked.prog laidAll (w.forCall tape i).memory)∧sizedMet enc Tryz.checked.prog fn (OpenSpec.ofChange s) false (w.forCall tape i).memory i.args)∧({}:Assume).holds Tryz.checked.prog (lone (Frame.enter Tryz.checked.prog f i.args .normal) [] (w.forCall tape i))) :
 ReturnsInLeavingWide {} Tryz.checked os f .any (fun w args=>(s.pre enc Tryz.prog fn [] false w args∧laidMetH Tryz.prog laidAll w)∧sizedMet enc Tryz.prog fn (OpenSpec.ofChange s) false w args) (s.post enc Tryz.prog fn false true false false):=by
 refine returnsInLeavingWide_of_good ownK started witness ?_
 intro w tape i _ _ _ hok hpre hholds
 obtain ⟨_,_,_,fn',hfn',_,_,_,hsz,hval⟩:=hok
 have e:fn'=fn:=Option.some.inj (hfn'.symm.trans hfn)
 subst e
 obtain ⟨⟨⟨ds,gs,before,hw,_⟩,hL⟩,_⟩:=hpre
 have hw':=DataW.Whole.of_heap (w':=w.forCall tape i) (by rfl) hw
 have hL':=of_laid (laidMetH.of_heap (w':=w.forCall tape i) (by rfl) hL)
 have hval':∃b0,∀(j:Nat) (t:TypeId) v,fn'.params[j]? = some t→i.args[j]? = some v→Value.okWide Tryz.prog (w.forCall tape i) .any b0 t v:=⟨_,hval⟩
 clear hval hL hw hholds witness
 revert hL' hval' hw'
 generalize w.forCall tape i=W
 intro hw' hL' hval'
 obtain ⟨e0,e1,f0,f1,hn,hc⟩:=hL'
 obtain ⟨b0,hval'⟩:=hval'
 have hwhole:=hw'
 rw [hvars] at hw'
 obtain ⟨p,q,hA,hV,hpq,_,_⟩:=hw'
 obtain ⟨hgs,rfl⟩:=trodVars_none hV
 subst hgs
 obtain ⟨X,hX,hargs,hcalls⟩:=hC W i.args ds ⟨p,_,b0,hsz,hA,hval'⟩
 have hng:Tryz.prog.globals.size≤W.heap.size:=by
  have h1:Tryz.prog.globals.size=2:=by kernel_rfl
  have h2:=(Array.getElem?_eq_some_iff.1 hc).1
  have h3:=(Array.getElem?_eq_some_iff.1 hn).1
  omega
 have hlen:ds.length=fn'.params.size:=by
  have:=(trodAll_length hA).2
  simpa using this
 obtain ⟨N,last,o,w',t',r1,r2,r3,r4⟩:=qej hf hne hX hargs hng hn hc hcalls
 refine ⟨N,last,o,w',t',r1,r2,r3,r4.mono fun v hp=>ChangeSpec.post_blind ?_⟩
 obtain ⟨⟨_,rfl⟩,h1,h2,h3,h4,_⟩:=hp
 refine ⟨ds,[],_,[],p,[],hwhole,?_,?_,?_,kept_of h3 h4 h1 _,fun h=>by cases h⟩
 ·rw [List.append_nil,hspec _ hlen,hres]
  exact trodAll_mk1 (shut_bool Tryz.underlying4 _)
 ·rw [List.append_nil,hspec _ hlen]
  exact YG kids_all qcj h1 hpar hA
 ·rw [List.append_nil,hspec _ hlen,hvars]
  rfl
end Go.Proofs.YtnpjncjnmpfgpaaGreatDoor
end
section
namespace Go.Proofs.YtnpjncjnmpfgpaaGreatDoor
open Go Go.Conc Go.Sim Go.Load Go.RowKit Go.ChangeShapes Go.WideShapes Go.ChangeAt
open Go.Proofs.Tryz
theorem addr_add (a:Addr) (i:Nat) (h:a.spot=none):a.add i=⟨a.block,a.off+i,none⟩:=by
 obtain ⟨b,o,s⟩:=a
 obtain rfl:s=none:=h
 unfold Addr.add
 split
 ·rename_i e;subst e;rfl
 ·rfl
section
variable {H:Type} {enc:TypeId×Value→H} {W:World} {t e:TypeId} {r:Reach} {b0:Nat} {v:Value} {d:DataW H} {ps:List MemPlace}
end
end Go.Proofs.YtnpjncjnmpfgpaaGreatDoor
end
section
namespace Go.Proofs.YtnpjncjnmpfgpaaGreatDoor
open Go Go.Conc Go.Sim Go.Load Go.RowKit Go.ChangeShapes Go.WideShapes Go.ChangeAt
open Go.Proofs.Tryz
def AddrZ (W:World) (a:Option Addr) (l c:Nat):Prop:=∀x,a=some x→(l=0∧c=0)∨∃cs e f,W.heap[x.block]? = some (.cells cs e f)
theorem xx {W:World} {a:Addr} {v:Value} (h:W.cell? a=some v):a.spot=none∧∃cs e f,W.heap[a.block]? = some (.cells cs e f):=by
 unfold World.cell? at h
 split at h
 ·rename_i c e f hb
  split at h
  ·cases h
  ·rename_i hs
   exact ⟨by simpa using hs,_,_,_,hb⟩
 ·cases h
theorem add_zero' (a:Addr):a.add 0=a:=by unfold Addr.add;rfl
structure GrpRd (W:World) (g:Grp):Prop where
 traf:yD W g
 cap:g.traffic.length≤g.tc
 big:g.name.size≤maxLen∧g.tc≤maxLen
 ad:AddrZ W g.ta g.traffic.length g.tc
structure BookRd (W:World) (B:Bk):Prop where
 row:qds W B
 cap:B.gs.length≤B.gc∧B.gc≤maxLen
 ad:AddrZ W B.ga B.gs.length B.gc
 gr:∀g∈B.gs,GrpRd W g
section
variable {H:Type} {enc:TypeId×Value→H} {W:World} {t e:TypeId} {fuel:Nat}
set_option maxRecDepth 100000 in
theorem qaT {z:Value} {x:DataW H×List MemPlace} (h:DataW.trod enc Tryz.prog W 0 (fun _=>true) true fuel 54 [z]=some x) :
 ∃(l:List (Int×Int)) (a:Option Addr) (c:Nat),z=.slice a l.length c∧(1≤l.length→∃b o,a=some ⟨b,o,none⟩∧qR W b o l)∧l.length≤c∧c≤maxLen∧AddrZ W a l.length c:=by
 rcases Go.Deep.open_slice_pairs (f0:=(fld 23 0)) (f1:=(fld 23 1)) Tryz.underlying54 (by kernel_rfl) (by kernel_rfl) (by kernel_rfl) (by kernel_rfl) (by kernel_rfl) (by kernel_rfl) h with ⟨hc,_⟩ | ⟨a',len,cap,m,k,V0,V1,D0,D1,P0,P1,hc,_,hlc,hcm,hm,_,hx⟩
 ·simp only [List.cons.injEq,and_true] at hc
  subst hc
  exact ⟨[],none,0,rfl,fun h=>(by simp at h),Nat.le_refl _,Nat.zero_le _,fun x e=>(by cases e)⟩
 ·simp only [List.cons.injEq,and_true] at hc
  subst hc
  have hm':m=cap:=by simpa using hm
  have t0:(fld 23 0).type=3:=by kernel_rfl
  have t1:(fld 23 1).type=3:=by kernel_rfl
  have num:∀i,∃x:Int×Int,i < len→V0 i=.int .i64 x.1∧V1 i=.int .i64 x.2:=fun i=>by
   by_cases hi:i < len
   ·obtain ⟨_,_,q0,q1⟩:=hx i (by omega)
    rw [t0] at q0
    rw [t1] at q1
    obtain ⟨n0,e0,_⟩:=DataW.trod_int Tryz.underlying3 q0
    obtain ⟨n1,e1,_⟩:=DataW.trod_int Tryz.underlying3 q1
    simp only [List.cons.injEq,and_true] at e0 e1
    exact ⟨(n0,n1),fun _=>⟨e0,e1⟩⟩
   ·exact ⟨(0,0),fun h=>absurd h hi⟩
  obtain ⟨g,hg⟩:=Classical.axiomOfChoice num
  have hb:1≤cap→a'.spot=none∧∃cs e f,W.heap[a'.block]? = some (.cells cs e f):=fun h1=>by
   obtain ⟨q0,_⟩:=hx 0 (by omega)
   rw [Nat.zero_mul,add_zero'] at q0
   exact xx q0
  refine ⟨(List.range len).map g,some a',cap,by simp,fun h1=>?_,by simpa using hlc,hcm,fun x e=>?_⟩
  ·have h1':1≤len:=by simpa using h1
   have hs:=(hb (by omega)).1
   refine ⟨a'.block,a'.off,?_,fun i x hi=>?_⟩
   ·obtain ⟨b,o,s⟩:=a'
    obtain rfl:s=none:=hs
    rfl
   ·rw [List.getElem?_map,Option.map_eq_some_iff] at hi
    obtain ⟨j,hj,rfl⟩:=hi
    have hjn:i < len:=by have:=(List.getElem?_eq_some_iff.1 hj).1;simpa using this
    have hji:j=i:=by rw [List.getElem?_range hjn] at hj;exact (Option.some.inj hj).symm
    subst hji
    obtain ⟨q0,q1,_⟩:=hx j (by omega)
    rw [addr_add _ _ hs] at q0 q1
    rw [(hg j hjn).1] at q0
    rw [(hg j hjn).2] at q1
    exact ⟨q0,q1⟩
  ·cases e
   by_cases h1:1≤cap
   ·exact .inr (hb h1).2
   ·exact .inl ⟨by simp;omega,by omega⟩
set_option maxRecDepth 100000 in
theorem qef {cs:List Value} {x:DataW H×List MemPlace} (h:DataW.trod enc Tryz.prog W 0 (fun _=>true) true fuel 56 cs=some x) :
 ∃g:Grp,cs=[.string g.name,.int .i64 g.trunks,.slice g.ta g.traffic.length g.tc]∧GrpRd W g:=by
 obtain ⟨ys,m0,rfl,hy,hl0,hn0,hel0⟩:=DataW.trod_struct Tryz.underlying56 h
 have c3:Tryz.prog.cellsOf 56=3:=by kernel_rfl
 rw [c3] at hl0
 match cs,hl0 with
 | [z0,z1,z2],_ =>
   have j0:DataW.trod enc Tryz.prog W 0 (fun _=>true) true m0 9 (([z0,z1,z2].drop 0).take (Tryz.prog.cellsOf 9))=ys[0]? := hel0 0 _ rfl
   have j1:DataW.trod enc Tryz.prog W 0 (fun _=>true) true m0 3 (([z0,z1,z2].drop 1).take (Tryz.prog.cellsOf 3))=ys[1]? := hel0 1 _ rfl
   have j2:DataW.trod enc Tryz.prog W 0 (fun _=>true) true m0 54 (([z0,z1,z2].drop 2).take (Tryz.prog.cellsOf 54))=ys[2]? := hel0 2 _ rfl
   have cs1:Tryz.prog.cellsOf 9=1:=by kernel_rfl
   have cs2:Tryz.prog.cellsOf 54=1:=by kernel_rfl
   rw [cs1] at j0
   rw [cInt] at j1
   rw [cs2] at j2
   match ys,hn0 with
   | [y0,y1,y2],_ =>
     obtain ⟨s,a0,_,hs⟩:=DataW.trod_string Tryz.underlying9 (show DataW.trod enc Tryz.prog W 0 _ _ m0 9 [z0]=some y0 from j0)
     obtain ⟨n,a1,_⟩:=DataW.trod_int Tryz.underlying3 (show DataW.trod enc Tryz.prog W 0 _ _ m0 3 [z1]=some y1 from j1)
     obtain ⟨l,a,c,rfl,h1,h2,h3,h4⟩:=qaT (show DataW.trod enc Tryz.prog W 0 _ _ m0 54 [z2]=some y2 from j2)
     simp only [List.cons.injEq,and_true] at a0 a1
     exact ⟨⟨s,n,l,a,c⟩,by rw [a0,a1],fun h=>h1 h,h2,⟨hs,h3⟩,h4⟩
set_option maxRecDepth 100000 in
theorem qcb {z:Value} {x:DataW H×List MemPlace} (h:DataW.trod enc Tryz.prog W 0 (fun _=>true) true fuel 24 [z]=some x) :
 ∃(l:List Grp) (a:Option Addr) (c:Nat),z=.slice a l.length c∧(1≤l.length→∃b o,a=some ⟨b,o,none⟩∧zo W b o l)∧l.length≤c∧c≤maxLen∧AddrZ W a l.length c∧∀g∈l,GrpRd W g:=by
 rcases Go.Deep.open_slice Tryz.underlying24 h with ⟨hc,_⟩ | ⟨a',len,cap,m,k,D,P,hc,_,hlc,hcm,hm,_,hx⟩
 ·simp only [List.cons.injEq,and_true] at hc
  subst hc
  exact ⟨[],none,0,rfl,fun h=>(by simp at h),Nat.le_refl _,Nat.zero_le _,fun x e=>(by cases e),fun g hg=>(by cases hg)⟩
 ·simp only [List.cons.injEq,and_true] at hc
  subst hc
  have hm':m=cap:=by simpa using hm
  have c3:Tryz.prog.cellsOf 56=3:=by kernel_rfl
  rw [c3] at hx
  have one:∀i,∃g:Grp,i < cap→W.cell? (a'.add (i * 3))=some (.string g.name)∧W.cell? (a'.add (i * 3+1))=some (.int .i64 g.trunks)∧W.cell? (a'.add (i * 3+2))=some (.slice g.ta g.traffic.length g.tc)∧GrpRd W g:=fun i=>by
   by_cases hi:i < cap
   ·obtain ⟨cs,q1,q2⟩:=hx i (by omega)
    obtain ⟨g,rfl,hg⟩:=qef q2
    obtain ⟨_,_,q3⟩:=World.cells?_some q1
    refine ⟨g,fun _=>⟨?_,?_,?_,hg⟩⟩
    ·have:=q3 0 (by decide);rwa [add_zero'] at this
    ·have:=q3 1 (by decide);rwa [Go.Deep.add_add] at this
    ·have:=q3 2 (by decide);rwa [Go.Deep.add_add] at this
   ·exact ⟨⟨⟨#[]⟩,0,[],none,0⟩,fun h=>absurd h hi⟩
  obtain ⟨g,hg⟩:=Classical.axiomOfChoice one
  have hb:1≤cap→a'.spot=none∧∃cs e f,W.heap[a'.block]? = some (.cells cs e f):=fun h1=>by
   obtain ⟨q0,_⟩:=hg 0 (by omega)
   rw [Nat.zero_mul,add_zero'] at q0
   exact xx q0
  refine ⟨(List.range len).map g,some a',cap,by simp,fun h1=>?_,by simpa using hlc,hcm,fun x e=>?_,fun y hy=>?_⟩
  ·have h1':1≤len:=by simpa using h1
   have hs:=(hb (by omega)).1
   refine ⟨a'.block,a'.off,?_,fun i x hi=>?_⟩
   ·obtain ⟨b,o,s⟩:=a'
    obtain rfl:s=none:=hs
    rfl
   ·rw [List.getElem?_map,Option.map_eq_some_iff] at hi
    obtain ⟨j,hj,rfl⟩:=hi
    have hjn:i < len:=by have:=(List.getElem?_eq_some_iff.1 hj).1;simpa using this
    have hji:j=i:=by rw [List.getElem?_range hjn] at hj;exact (Option.some.inj hj).symm
    subst hji
    obtain ⟨q0,q1,q2,_⟩:=hg j (by omega)
    rw [addr_add _ _ hs] at q0 q1 q2
    exact ⟨q0,q1,q2⟩
  ·cases e
   by_cases h1:1≤cap
   ·exact .inr (hb h1).2
   ·exact .inl ⟨by simp;omega,by omega⟩
  ·obtain ⟨j,hj,rfl⟩:=List.mem_map.1 hy
   have hj:=List.mem_range.1 hj
   exact (hg j (by omega)).2.2.2
set_option maxRecDepth 100000 in
theorem qgr {r:Reach} {b0:Nat} {v:Value} {d:DataW H} {ps:List MemPlace} (hv:Value.okWide Tryz.prog W r b0 26 v) (h:DataW.Trod enc Tryz.prog W 0 (fun _=>true) true 26 v d ps):∃B:Bk,v=bv B∧BookRd W B:=by
 obtain ⟨cs,rfl,hcs⟩:=okWide_struct Tryz.underlying26 hv
 obtain ⟨fuel,h⟩:=h
 obtain ⟨ys,m0,rfl,hy,hl0,hn0,hel0⟩:=DataW.trod_struct Tryz.underlying26 h
 have c5:Tryz.prog.cellsOf 26=5:=by kernel_rfl
 rw [c5] at hcs
 obtain ⟨l⟩:=cs
 match l,hcs with
 | [z0,z1,z2,z3,z4],_ =>
   have j0:DataW.trod enc Tryz.prog W 0 (fun _=>true) true m0 23 (([z0,z1,z2,z3,z4].drop 0).take (Tryz.prog.cellsOf 23))=ys[0]? := hel0 0 _ rfl
   have j1:DataW.trod enc Tryz.prog W 0 (fun _=>true) true m0 3 (([z0,z1,z2,z3,z4].drop 2).take (Tryz.prog.cellsOf 3))=ys[1]? := hel0 1 _ rfl
   have j2:DataW.trod enc Tryz.prog W 0 (fun _=>true) true m0 3 (([z0,z1,z2,z3,z4].drop 3).take (Tryz.prog.cellsOf 3))=ys[2]? := hel0 2 _ rfl
   have j3:DataW.trod enc Tryz.prog W 0 (fun _=>true) true m0 24 (([z0,z1,z2,z3,z4].drop 4).take (Tryz.prog.cellsOf 24))=ys[3]? := hel0 3 _ rfl
   rw [show Tryz.prog.cellsOf 23=2 by kernel_rfl] at j0
   rw [cInt] at j1 j2
   rw [show Tryz.prog.cellsOf 24=1 by kernel_rfl] at j3
   match ys,hn0 with
   | [y0,y1,y2,y3],_ =>
     obtain ⟨us,m1,rfl,_,_,hn1,hel1⟩:=DataW.trod_struct Tryz.underlying23 (show DataW.trod enc Tryz.prog W 0 _ _ m0 23 [z0,z1]=some y0 from j0)
     have k0:DataW.trod enc Tryz.prog W 0 (fun _=>true) true m1 3 (([z0,z1].drop 0).take (Tryz.prog.cellsOf 3))=us[0]? := hel1 0 _ rfl
     have k1:DataW.trod enc Tryz.prog W 0 (fun _=>true) true m1 3 (([z0,z1].drop 1).take (Tryz.prog.cellsOf 3))=us[1]? := hel1 1 _ rfl
     rw [cInt] at k0 k1
     match us,hn1 with
     | [u0,u1],_ =>
       obtain ⟨n0,a0,_⟩:=DataW.trod_int Tryz.underlying3 (show DataW.trod enc Tryz.prog W 0 _ _ m1 3 [z0]=some u0 from k0)
       obtain ⟨n1,a1,_⟩:=DataW.trod_int Tryz.underlying3 (show DataW.trod enc Tryz.prog W 0 _ _ m1 3 [z1]=some u1 from k1)
       obtain ⟨n2,a2,_⟩:=DataW.trod_int Tryz.underlying3 (show DataW.trod enc Tryz.prog W 0 _ _ (m1+1) 3 [z2]=some y1 from j1)
       obtain ⟨n3,a3,_⟩:=DataW.trod_int Tryz.underlying3 (show DataW.trod enc Tryz.prog W 0 _ _ (m1+1) 3 [z3]=some y2 from j2)
       obtain ⟨l,a,c,rfl,h1,h2,h3,h4,h5⟩:=qcb (show DataW.trod enc Tryz.prog W 0 _ _ (m1+1) 24 [z4]=some y3 from j3)
       simp only [List.cons.injEq,and_true] at a0 a1 a2 a3
       subst a0 a1 a2 a3
       exact ⟨⟨(n0,n1),n2,n3,l,a,c⟩,rfl,fun h=>h1 h,⟨h2,h3⟩,h4,h5⟩
end
end Go.Proofs.YtnpjncjnmpfgpaaGreatDoor
end
section
namespace Go.Proofs.YtnpjncjnmpfgpaaGreatDoor
open Go Go.Conc Go.Sim Go.Load Go.RowKit Go.ChangeShapes Go.WideShapes Go.ChangeAt
open Go.Proofs.Tryz
section
variable {H:Type} {enc:TypeId×Value→H} {W:World} {t:TypeId} {r:Reach} {b0:Nat} {v:Value} {d:DataW H} {ps:List MemPlace}
end
end Go.Proofs.YtnpjncjnmpfgpaaGreatDoor
end
section
namespace Go.Proofs.YtnpjncjnmpfgpaaGreatDoor
open Go Go.Conc Go.Sim Go.Load Go.RowKit Go.ChangeShapes Go.WideShapes Go.ChangeAt
open Go.Proofs.Tryz
def BkX (W:World) (B:Bk) (b:Nat):Prop:=(∃cs e f,W.heap[b]? = some (.cells cs e f))∧((∃a,B.ga=some a∧a.block=b)∨∃g∈B.gs,∃a,g.ta=some a∧a.block=b)
structure BookIn (w:World) (B:Bk):Prop where
 row:qds w B
 traf:∀g∈B.gs,yD w g
theorem BookIn.keep {w w1:World} {B:Bk} (h:BookIn w B) (hB:Below w.heap.size w w1):BookIn w1 B:=⟨h.row.keep hB,fun g hg=>(h.traf g hg).keep hB⟩
theorem BookIn.at {w:World} {B:Bk} (h:BookIn w B) (hs:B.gs.length≤20∧∀g∈B.gs,g.traffic.length≤20∧g.name.size≤100) (hc:B.gs.length≤B.gc):BookAt w B:=⟨h.row,h.traf,hs,hc⟩
theorem vr_book {W:World} {B:Bk} (h:BookRd W B) {X:Nat→Prop} {C:FuncId→Prop} {R:Nat→Nat→Prop} (hX:∀b,BkX W B b→X b) (hR:∀b,X b→R b b):VR C R (bv B) (bv B):=by
 refine .agg rfl fun i x x' hx hx'=>?_
 rw [hx] at hx'
 cases hx'
 have hi:=(Array.getElem?_eq_some_iff.1 hx).1
 rcases (show i=0∨i=1∨i=2∨i=3∨i=4 by simp at hi;omega) with rfl | rfl | rfl | rfl | rfl
 ·cases hx;exact .int _ _
 ·cases hx;exact .int _ _
 ·cases hx;exact .int _ _
 ·cases hx;exact .int _ _
 ·have e:x=.slice B.ga B.gs.length B.gc:=by cases hx;rfl
  rw [e]
  have had:=h.ad
  cases ha:B.ga with
  | none=>exact .snil _ _
  | some a =>
    rcases had a ha with ⟨h1,h2⟩ | h1
    ·rw [h1,h2];exact .zcap a
    ·exact .slice _ _ ⟨hR _ (hX _ ⟨h1,.inl ⟨a,ha,rfl⟩⟩),rfl,rfl⟩
theorem book_in {W w:World} {B:Bk} (h:BookRd W B) {X:Nat→Prop} (hX:∀b,BkX W B b→X b) (hk:∀b o v,X b→W.cell? ⟨b,o,none⟩=some v→PlainX X v→w.cell? ⟨b,o,none⟩=some v):BookIn w B:=by
 refine ⟨fun hl=>?_,fun g hg hl=>?_⟩
 ·obtain ⟨b,o,e,hc⟩:=h.row hl
  have hxb:∀i (g:Grp),B.gs[i]? = some g→X b:=fun i g hg=>hX b ⟨(xx (hc i g hg).1).2,.inl ⟨_,e,rfl⟩⟩
  refine ⟨b,o,e,fun i g hg=>⟨hk _ _ _ (hxb i g hg) (hc i g hg).1 (.str _),hk _ _ _ (hxb i g hg) (hc i g hg).2.1 (.int _ _),hk _ _ _ (hxb i g hg) (hc i g hg).2.2 ?_⟩⟩
  have hm:=List.mem_of_getElem? hg
  have had:=(h.gr g hm).ad
  cases ha:g.ta with
  | none=>exact .snil _ _
  | some a =>
    rcases had a ha with ⟨h1,h2⟩ | h1
    ·rw [h1,h2];exact .zcap a
    ·exact .slice a _ _ (hX _ ⟨h1,.inr ⟨g,hm,a,ha,rfl⟩⟩)
 ·obtain ⟨b,o,e,hp⟩:=(h.gr g hg).traf hl
  refine ⟨b,o,e,fun i x hx=>?_⟩
  have hxb:X b:=hX b ⟨(xx (hp i x hx).1).2,.inr ⟨g,hg,_,e,rfl⟩⟩
  exact ⟨hk _ _ _ hxb (hp i x hx).1 (.int _ _),hk _ _ _ hxb (hp i x hx).2 (.int _ _)⟩
end Go.Proofs.YtnpjncjnmpfgpaaGreatDoor
end
section
namespace Go.Proofs.Tryz
open Go Go.Sim Go.Load Go.RowKit
open Go.Proofs.YtnpjncjnmpfgpaaGreatDoor (BookIn)
def modest (B:Bk):Bool:=decide (B.gs.length≤20) && B.gs.all fun g=>decide (g.name.size≤100) && decide (g.traffic.length≤20)
theorem qdW {B:Bk} (h:modest B=true):B.gs.length≤20∧∀g∈B.gs,g.traffic.length≤20∧g.name.size≤100:=by
 unfold modest at h
 simp only [Bool.and_eq_true,decide_eq_true_eq,List.all_eq_true] at h
 exact ⟨h.1,fun g hg=>⟨(h.2 g hg).2,(h.2 g hg).1⟩⟩
set_option maxHeartbeats 2000000 in
set_option maxRecDepth 100000 in
theorem qaf (B:Bk) (w:World) (h:BookIn w B):Calls qg 6 #[bv B] w fun e w'=>e=.returned (.bool (!modest B))∧Below w.heap.size w w':=by
 obtain ⟨R,hR⟩:∃R,modest B=R:=⟨_,rfl⟩
 rw [hR]
 have hrow:=h.row
 clear h
 obtain ⟨lim,gr,hr,gs,ga,gc⟩:=B
 simp only [bv]
 simp only [modest] at hR
 by_cases hlen:gs.length≤20
 ·rw [decide_eq_true hlen,Bool.true_and] at hR
  by_cases h0:1≤gs.length
  ·obtain ⟨b,o,hga,hcs⟩:=hrow h0
   simp only at hga hcs
   subst hga
   have HG:Hid ((∀(j:Nat) (g:Grp),gs[j]? = some g→g.name.size≤100∧g.traffic.length≤20)→R=true):=Lib.hid fun h=>by
    rw [← hR,List.all_eq_true]
    intro x hx
    obtain ⟨j,hj,rfl⟩:=List.getElem_of_mem hx
    have:=h j gs[j] (by simp [hj])
    simp [this.1,this.2]
   have HB:Hid (∀(j:Nat) (g:Grp),gs[j]? = some g→¬ (g.name.size≤100∧g.traffic.length≤20)→R=false):=Lib.hid fun j g hg h=>by
    rw [← hR,List.all_eq_false]
    refine ⟨g,List.mem_of_getElem? hg,fun e=>h ?_⟩
    simpa using e
   have HC:=Lib.hid hcs
   clear hcs hrow hR
   go_enter s6,ntmps6
   go_wp2
   obtain ⟨W,hW⟩:∃W,w.alloc (Obj.cells #[.int .i64 lim.1,.int .i64 lim.2,.int .i64 gr,.int .i64 hr,.slice (some ⟨b,o,none⟩) gs.length gc] 26)=W:=⟨_,rfl⟩
   have k4:W.cell? ⟨w.heap.size,4,none⟩=some (.slice (some ⟨b,o,none⟩) gs.length gc):=by subst hW;go_cell
   have hBW:Below w.heap.size w W:=by subst hW;go_grown
   rw [hW]
   clear hW
   go_loop [3] (fun i=>∃k:Nat,i=.int .i64 k∧k≤gs.length∧Hid (∀(j:Nat) (g:Grp),j < k→gs[j]? = some g→g.name.size≤100∧g.traffic.length≤20)) (fun i=>gs.length - (intOf i).toNat)
   case atStart=>exact ⟨0,rfl,Nat.zero_le _,Lib.hid fun j x hj=>absurd hj (Nat.not_lt_zero _)⟩
   case round =>
    obtain ⟨k,rfl,hk,HK⟩:=hrel
    by_cases hlt:k < gs.length
    ·obtain ⟨g,hg⟩:∃g,gs[k]? = some g:=⟨gs[k],by simp [hlt]⟩
     obtain ⟨c0,c1,c2⟩:=HC.out k g hg
     have c0:=qb _ hBW c0
     have c2:=qb _ hBW c2
     have hBk:=HB.out k g hg
     have HN:(g.name.size≤100∧g.traffic.length≤20)→Hid (∀(j:Nat) (y:Grp),j < k+1→gs[j]? = some y→y.name.size≤100∧y.traffic.length≤20):=fun hh=>Lib.hid fun j y hj hy=>by
      rcases Nat.lt_succ_iff_lt_or_eq.1 hj with h1 | rfl
      ·exact HK.out j y h1 hy
      ·rw [hg] at hy
       cases hy
       exact hh
     clear hg
     by_cases h1:g.name.size≤100
     ·by_cases h2:g.traffic.length≤20
      ·have HN:=HN ⟨h1,h2⟩
       clear hBk
       go_wp2
       go_round
       case rel=>exact ⟨k+1,by go_num,by omega,HN⟩
       case measure=>simp [intOf];omega
      ·have hb:=hBk fun h=>h2 h.2
       subst hb
       clear hBk HN
       go_wp2
       go_ret
       exact ⟨rfl,hBW⟩
     ·have hb:=hBk fun h=>h1 h.1
      subst hb
      clear hBk HN
      go_wp2
      go_ret
      exact ⟨rfl,hBW⟩
    ·obtain rfl:k=gs.length:=by omega
     have hb:R=true:=HG.out fun j g hg=>HK.out j g (List.getElem?_eq_some_iff.1 hg).1 hg
     subst hb
     go_wp2
     go_ret
     exact ⟨rfl,hBW⟩
  ·obtain rfl:gs=[]:=List.length_eq_zero_iff.1 (by omega)
   have hb:R=true:=by rw [← hR];rfl
   subst hb
   clear hrow hR
   go_enter s6,ntmps6
   go_wp2
   refine wp_loop_rounds 1 ?_
   rw [rounds_succ]
   go_wp2
   go_ret
   exact ⟨rfl,by go_grown⟩
 ·have hb:R=false:=by rw [← hR,decide_eq_false hlen,Bool.false_and]
  subst hb
  clear hrow hR
  go_enter s6,ntmps6
  go_wp2
  go_ret
  exact ⟨rfl,by go_grown⟩
end Go.Proofs.Tryz
end
namespace Go.Proofs.Tryz
open Go Go.Sim Go.Load Go.RowKit
theorem Jc:qg.funcs[15]? = some XC:=by kernel_rfl
theorem qgH:XC.ntmps=48:=rfl
@[go_sem] theorem src_needsC (args:Array Value) (w:World):(callFunc 15 args).run qg w=.ok (.enter 15 args) w:=qh Jc (by kernel_rfl) (by kernel_rfl) args w
section
variable {w:World} {a b c d e:Value}
theorem yU {S T:TypeId} {fs:Array Field} {fd:Field} {k:Nat} {cs:Array Value} {z:Value} (hu:qg.underlying S=some (.struct fs)) (hf:fs[k]? = some fd) (ht:fd.type=T) (ha:(isAgg T).run qg w=.ok false w) (hz:cs[fd.offset]? = some z):(Instr.field S (.agg cs) k).run qg w=.ok z w:=by
 simp only [Instr.field,Sem.run_bind,run_underlying hu,Result.andThen_ok,hf,asAgg,Sem.run_pure,part,ht,ha,Bool.false_eq_true,if_false,hz]
@[go_sem] theorem fld_bk1:(Instr.field 26 (.agg #[a,b,c,d,e]) 1).run qg w=.ok c w:=yU Yf bk1 (T:=3) (by kernel_rfl) jS (by rw [show (fld 26 1).offset=2 by kernel_rfl];rfl)
@[go_sem] theorem fld_bk2:(Instr.field 26 (.agg #[a,b,c,d,e]) 2).run qg w=.ok d w:=yU Yf bk2 (T:=3) (by kernel_rfl) jS (by rw [show (fld 26 2).offset=3 by kernel_rfl];rfl)
@[go_sem] theorem fld_bk3:(Instr.field 26 (.agg #[a,b,c,d,e]) 3).run qg w=.ok e w:=yU Yf bk3 (T:=24) (by kernel_rfl) ag_grs (by rw [show (fld 26 3).offset=4 by kernel_rfl];rfl)
@[go_sem] theorem fld_bk0:(Instr.field 26 (.agg #[a,b,c,d,e]) 0).run qg w=.ok (.agg #[a,b]) w:=by
  simp only [Instr.field,Sem.run_bind,run_underlying Yf,Result.andThen_ok,bk0,asAgg,Sem.run_pure,part,show (fld 26 0).type=23 by kernel_rfl,show (fld 26 0).offset=0 by kernel_rfl,ag_fr,if_true,qeo]
  rfl
@[go_sem] theorem fld_gr0:(Instr.field 56 (.agg #[a,b,c]) 0).run qg w=.ok a w:=yU Jh gr0 (T:=9) (by kernel_rfl) ag_str (by rw [show (fld 56 0).offset=0 by kernel_rfl];rfl)
@[go_sem] theorem fld_gr1:(Instr.field 56 (.agg #[a,b,c]) 1).run qg w=.ok b w:=yU Jh gr1 (T:=3) (by kernel_rfl) jS (by rw [show (fld 56 1).offset=1 by kernel_rfl];rfl)
@[go_sem] theorem fld_gr2:(Instr.field 56 (.agg #[a,b,c]) 2).run qg w=.ok c w:=yU Jh gr2 (T:=54) (by kernel_rfl) ag_frs (by rw [show (fld 56 2).offset=2 by kernel_rfl];rfl)
@[go_sem] theorem fld_fr0:(Instr.field 23 (.agg #[a,b]) 0).run qg w=.ok a w:=yU Jg fr0 (T:=3) (by kernel_rfl) jS (by rw [show (fld 23 0).offset=0 by kernel_rfl];rfl)
@[go_sem] theorem fld_fr1:(Instr.field 23 (.agg #[a,b]) 1).run qg w=.ok b w:=yU Jg fr1 (T:=3) (by kernel_rfl) jS (by rw [show (fld 23 1).offset=1 by kernel_rfl];rfl)
end
theorem qfF {w:World} {n:Nat} (hn:n≤1000):(Instr.makeSlice 33 (.int .i64 n) (.int .i64 n)).run qg w=.ok (.slice (some ⟨w.heap.size,0,none⟩) n n) (w.alloc (.cells (madeCells #[.int .i64 0] n) 3)):=by
 have hi:qg.info? 3=some ((Tryz.prog.info? 3).getD default):=by rw [yS];kernel_rfl
 have hs:((Tryz.prog.info? 3).getD default).size=1:=by kernel_rfl
 have hby:((Tryz.prog.info? 3).getD default).bytes=8:=by kernel_rfl
 have hz:((Tryz.prog.info? 3).getD default).zero=some (.int .i64 0):=by kernel_rfl
 generalize (Tryz.prog.info? 3).getD default=inf at hi hs hby hz
 have hr:=run_makeSlice (P:=qg) w 33 3 inf (.int .i64 0) (by rw [zl];exact Tryz.underlying33) hi hz .i64 .i64 (n:Int) n (by omega) (by omega) (by rw [hs];omega) (by rw [hby];omega) (by omega)
 rw [hs] at hr
 simpa [Value.cells] using hr
def RowI (W:World) (s n:Nat) (L:List Int) (k:Nat):Prop:=∀i,i < n→∃x,W.cell? ⟨s,i,none⟩=some (.int .i64 x)∧W.frozen? ⟨s,i,none⟩=false∧(i < k→L[i]? = some x)
theorem RowI.keep {W w1:World} {s n k:Nat} {L:List Int} (h:RowI W s n L k) (hB:Below W.heap.size W w1):RowI w1 s n L k:=fun i hi =>
 let ⟨x,a,b,c⟩:=h i hi
 ⟨x,qb _ hB a,qf _ hB a b,c⟩
theorem RowI.set {W:World} {s n k:Nat} {L:List Int} {y:Int} (h:RowI W s n L k) (hk:k < n) (hy:L[k]? = some y):RowI (W.setCell ⟨s,k,none⟩ (.int .i64 y)) s n L (k+1):=fun i hi=>by
 obtain ⟨x,a,b,c⟩:=h i hi
 by_cases e:i=k
 ·subst e;exact ⟨y,zi (qx a),by simpa using b,fun _=>hy⟩
 ·exact ⟨x,qc (by simp <;> omega) a,by simpa using b,fun h=>c (by omega)⟩
def qdb (B:Bk):List Int:=B.gs.map (QG B)
set_option maxHeartbeats 4000000 in
set_option maxRecDepth 100000 in
theorem Needs_ok (B:Bk) (w:World) (h:BookAt w B) (hG:Globs w) (hl:1≤B.gs.length) (ht:∀g∈B.gs,1≤g.traffic.length) (hcp:∀g∈B.gs,g.traffic.length≤g.tc) (hz:checkN B=0):Calls qg 15 #[bv B] w fun e w'=>∃v,e=.returned (.tuple #[v,.int .i64 0])∧yB w' v (qdb B)∧Below w.heap.size w w':=by
 have hop:=fun W (hB:Below w.heap.size w W)=>zW B true W (h.keep hB) (hG.keep hB)
 unfold jd at hop
 simp only [if_pos hz,if_true] at hop
 have hV:=qB hz
 have hne:=fun (W:World) (hB:Below w.heap.size w W) (i:Nat) (g:Grp) (hg:B.gs[i]? = some g)=>YZ B i g hg W ⟨h.keep hB,hV.num.1⟩ (hV.grp g (List.mem_of_getElem? hg)).traf
 obtain ⟨b,o,hga,hcs⟩:=h.row hl
 have htr:=Lib.hid fun g (hg:g∈B.gs)=>h.traf g hg (ht g hg)
 have hsm:=Lib.hid h.small.2
 have hl4:=hV.len4
 have hcap:=h.cap
 have HT:=Lib.hid ht
 have HCP:=Lib.hid hcp
 have HO:=Lib.hid hop
 have HN:=Lib.hid hne
 obtain ⟨L,hL⟩:∃L,L=qdb B:=⟨_,rfl⟩
 have HL:Hid (L.length=B.gs.length∧∀(i:Nat) (g:Grp),B.gs[i]? = some g→L[i]? = some (QG B g)):=Lib.hid ⟨by rw [hL];simp [qdb],fun i g hg=>by rw [hL];show (B.gs.map (QG B))[i]? = some (QG B g);rw [List.getElem?_map,hg];rfl⟩
 obtain ⟨nN,hnN⟩:∃nN,nN=QG B:=⟨_,rfl⟩
 rw [← hL]
 simp only [← hnN] at HN HL
 clear hop hne hV hz ht hcp hL hnN h hG
 obtain ⟨lim,gr,hr,gs,ga,gc⟩:=B
 simp only at hga hcs hl4 hl hcap
 subst hga
 simp only [bv] at *
 have HC:=Lib.hid hcs
 clear hcs
 obtain ⟨s21,h21⟩:∃s:ByteArray,s=⟨Array.replicate 21 0⟩:=⟨_,rfl⟩
 obtain ⟨s101,h101⟩:∃s:ByteArray,s=⟨Array.replicate 101 0⟩:=⟨_,rfl⟩
 have z21:s21.size=21:=by rw [h21];rfl
 have z101:s101.size=101:=by rw [h101];rfl
 go_enter Jc,qgH
 simp only [Qk,sB2,sB3,sL0,sL1,sL2,sO0,sO1,sO2,sO3,sO4,sO5,sO6,sO7,sO8,sO9,sO11,sO12,op2,qaO,zero2,str21,str101,← h21,← h101]
 clear h21 h101
 go_wp2
 obtain ⟨W,hW⟩:∃W,w.alloc (Obj.cells #[.int .i64 lim.1,.int .i64 lim.2,.int .i64 gr,.int .i64 hr,.slice (some ⟨b,o,none⟩) gs.length gc] 26)=W:=⟨_,rfl⟩
 have hBW:Below w.heap.size w W:=by subst hW;go_grown
 rw [hW]
 clear hW
 go_loopw [7] (fun i wr=>W=wr∧∃k:Nat,i=.int .i64 k∧k≤gs.length) (fun i _=>gs.length - (intOf i).toNat)
 case atStart=>exact ⟨rfl,0,rfl,by omega⟩
 case round =>
  obtain ⟨hwr,k,rfl,hk⟩:=hrel
  subst hwr
  by_cases hlt:k < gs.length
  ·obtain ⟨g,hg⟩:∃g,gs[k]? = some g:=⟨gs[k],by simp [hlt]⟩
   have hm:=List.mem_of_getElem? hg
   obtain ⟨c0,c1,c2⟩:=HC.out k g hg
   replace c0:=qb _ hBW c0
   replace c1:=qb _ hBW c1
   replace c2:=qb _ hBW c2
   obtain ⟨tb,tof,hta,hp⟩:=htr.out g hm
   have ht1:=HT.out g hm
   have htc:=HCP.out g hm
   obtain ⟨ht2,hn2⟩:=hsm.out g hm
   have HP:=Lib.hid hp
   clear hp
   rw [hta] at c2
   go_wp2
   all_goals try (exfalso;omega)
   go_loopw [28] (fun j wr=>W=wr∧∃m:Nat,j=.int .i64 m∧m≤g.traffic.length) (fun j _=>g.traffic.length - (intOf j).toNat)
   case atStart=>exact ⟨rfl,0,rfl,by omega⟩
   case round =>
    obtain ⟨hwr,m,rfl,hmle⟩:=hrel
    subst hwr
    by_cases hlt2:m < g.traffic.length
    ·obtain ⟨x,hx⟩:∃x,g.traffic[m]? = some x:=⟨g.traffic[m],by simp [hlt2]⟩
     obtain ⟨p0,p1⟩:=HP.out m x hx
     replace p0:=qb _ hBW p0
     replace p1:=qb _ hBW p1
     go_wp2
     exact ⟨⟨trivial,m+1,by simp,by omega⟩,by simp [intOf];omega⟩
    ·go_wp2
     exact ⟨⟨trivial,k+1,by simp,by omega⟩,by simp [intOf];omega⟩
  ·go_wp2_with (go_at_call 42;refine (HO.out _ (by go_grown)).mono ?_;rintro e w1 ⟨rfl,hB1⟩;(first | (replace hB:=bcl (by with_reducible assumption) hB1) | (replace hB:=bcl (by go_grown) hB1) | (have hB:=hB1));(try clear hc hg hz);obtain ⟨hc,hg⟩:=qp hB;have hz:=hB.size;clear hB1;(try simp at hz);(try have hlt0:w.heap.size < w1.heap.size:=by omega))
   rw [qfF (by omega)]
   go_wp2
   obtain ⟨X,hX⟩:∃X,w1.alloc (.cells (madeCells #[.int .i64 0] gs.length) 3)=X:=⟨_,rfl⟩
   have hBX:Below w.heap.size w X:=by subst hX;go_grown
   have hsX:X.heap.size=w1.heap.size+1:=by subst hX;simp
   have hRX:RowI X w1.heap.size gs.length L 0:=by
    subst hX
    intro i hi
    have hg0:(madeCells #[.int .i64 0] gs.length)[i]? = some (.int .i64 0):=by simp [madeCells,hi,Nat.mod_one]
    have hb:(w1.alloc (.cells (madeCells #[.int .i64 0] gs.length) 3)).heap[w1.heap.size]? = some (.cells (madeCells #[.int .i64 0] gs.length) 3):=by show (w1.heap.push _)[w1.heap.size]? = _;simp
    exact ⟨0,by unfold World.cell?;rw [hb];exact hg0,by unfold World.frozen?;rw [hb];simp,fun h=>absurd h (Nat.not_lt_zero _)⟩
   rw [hX]
   obtain ⟨s,hs⟩:∃s,w1.heap.size=s:=⟨_,rfl⟩
   have hws:w.heap.size≤s:=by omega
   rw [hs] at hRX ⊢
   have hsX':s < X.heap.size:=by omega
   clear hX hsX
   go_loopw [7] (fun j wr=>∃m:Nat,j=.int .i64 m∧m≤gs.length∧RowI wr s gs.length L m∧Below w.heap.size w wr∧s < wr.heap.size) (fun j _=>gs.length - (intOf j).toNat)
   case atStart=>exact ⟨0,rfl,by omega,hRX,hBX,hsX'⟩
   case round =>
    obtain ⟨m,rfl,hm,hR,hBr,hsr⟩:=hrel
    by_cases hlt3:m < gs.length
    ·obtain ⟨g,hg⟩:∃g,gs[m]? = some g:=⟨gs[m],by simp [hlt3]⟩
     have hne:=fun W hB=>HN.out W hB m g hg
     have hLm:=HL.out.2 m g hg
     go_wp2_with (go_at_call 62;refine (hne _ (by go_grown)).mono ?_;rintro e w2 ⟨rfl,hB2⟩;have hR2:=hR.keep hB2;obtain ⟨x2,kx,fx,_⟩:=hR2 m hlt3;have hz2:=hB2.size)
     refine ⟨⟨m+1,by simp,by omega,hR2.set hlt3 hLm,Below.setCell (bcl hBr hB2) hws _,by simp;omega⟩,by simp [intOf];omega⟩
    ·go_wp2
     refine bodyPost_ret (results_tmp2 (show XC.results=#[.tmp 2,.tmp 3] by kernel_rfl) _ _ _) rfl ?_
     obtain rfl:m=gs.length:=by omega
     refine ⟨_,rfl,⟨some ⟨s,0,none⟩,gs.length,?_,fun _=>⟨s,rfl,fun i x hx=>?_⟩⟩,hBr⟩
     ·rw [HL.out.1];rfl
     ·have hi:i < gs.length:=by rw [← HL.out.1];exact (List.getElem?_eq_some_iff.1 hx).1
      obtain ⟨y,a1,_,a3⟩:=hR i hi
      rw [a3 hi] at hx
      cases hx;exact a1
end Go.Proofs.Tryz
namespace Go.Proofs.Tryz
open Go Go.Load Go.RowKit
theorem qfP (l:List Grp) (k:Nat) (t:Int):(jG l k t).map Grp.name=l.map Grp.name:=by
 unfold jG
 split
 ·rename_i x hx
  obtain ⟨hk,e⟩:=List.getElem?_eq_some_iff.1 hx
  refine List.ext_getElem? fun i=>?_
  rw [List.getElem?_map,List.getElem?_map]
  by_cases h:k=i
  ·subst h
   rw [List.getElem?_set_self hk,hx]
   rfl
  ·rw [List.getElem?_set_ne h]
 ·rfl
theorem jO {l:List Grp} {k:Nat} {t:Int} {i:Nat} {g:Grp} (h:(jG l k t)[i]? = some g):∃x,l[i]? = some x∧(g=x∧i≠k∨i=k∧g={ x with trunks:=t }):=by
 unfold jG at h
 split at h
 ·rename_i x hx
  obtain ⟨hk,e⟩:=List.getElem?_eq_some_iff.1 hx
  by_cases hi:k=i
  ·subst hi
   rw [List.getElem?_set_self hk] at h
   cases h
   exact ⟨x,hx,.inr ⟨rfl,rfl⟩⟩
  ·rw [List.getElem?_set_ne hi] at h
   exact ⟨g,h,.inl ⟨rfl,fun e=>hi e.symm⟩⟩
 ·rename_i hx
  exact ⟨g,h,.inl ⟨rfl,fun e=>by subst e;rw [hx] at h;cases h⟩⟩
theorem XI {B:Bk} (hc:checkN B=0) {k:Nat} {t:Int} (h0:0≤t) (h7:t≤7):checkN { B with gs:=jG B.gs k t }=0:=by
 have hV:=qB hc
 refine check_of (B:={ B with gs:=jG B.gs k t }) hV.num (by show 1≤(jG B.gs k t).length;rw [zu];exact hV.len1) (by show (jG B.gs k t).length≤4;rw [zu];exact hV.len4) fun i g hg=>?_
 obtain ⟨x,hx,hgx⟩:=jO hg
 obtain ⟨hG,hN⟩:=Zm (qbp hc i x hx)
 have hn:g.name=x.name:=by rcases hgx with ⟨rfl,_⟩ | ⟨_,rfl⟩ <;> rfl
 refine qbJ ?_ ?_
 ·rcases hgx with ⟨rfl,_⟩ | ⟨_,rfl⟩
  ·exact hG
  ·exact ⟨hG.name,h0,h7,hG.len,hG.traf⟩
 ·have any_nm:∀l:List Grp,(l.any fun o=>o.name.toList == g.name.toList)=((l.map Grp.name).any fun s=>s.toList == g.name.toList):=fun l=>by rw [List.any_map];rfl
  show (((jG B.gs k t).take i).any fun o=>o.name.toList == g.name.toList)=false
  rw [any_nm,List.map_take,qfP,← List.map_take,← any_nm,hn]
  exact hN
def thou (x:Int×Int):Int:=1000 * x.1 / x.2
def totB (t b n:Nat):Bool:=Ju (qW t b n) && decide (okS (qW t b n) 8589934592) && (n == 7 || decide (thou (qW t b (n+1))≤thou (qW t b n))) && decide (thou (qW t b 0)=thou ((t:Int),(b:Int)))
theorem tot_all:((List.range 13).all fun t=>(List.range 4).all fun b=>(List.range 8).all fun n=>totB t (b+1) n)=true:=by decide +kernel
theorem qgS {t b n:Nat} (ht:t≤12) (hb:1≤b∧b≤4) (hn:n≤7):totB t b n=true:=by
 have k:=yu (yu (yu tot_all (show t < 13 by omega)) (show b - 1 < 4 by omega)) (show n < 8 by omega)
 rwa [show b - 1+1=b by omega] at k
theorem tot_out {t b n:Nat} (ht:t≤12) (hb:1≤b∧b≤4) (hn:n≤7):Ju (qW t b n)=true∧okS (qW t b n) 8589934592∧(n < 7→thou (qW t b (n+1))≤thou (qW t b n))∧thou (qW t b 0)=thou ((t:Int),(b:Int)):=by
 have k:=qgS ht hb hn
 unfold totB at k
 simp only [Bool.and_eq_true,decide_eq_true_eq,Bool.or_eq_true,beq_iff_eq] at k
 exact ⟨k.1.1.1,k.1.1.2,fun h=>k.1.2.resolve_left (by omega),k.2⟩
theorem Yy {B:Bk} (hV:Valid B) {h:Nat} (hh:(h:Int) < B.hours) {g:Grp} (hg:g∈B.gs):∃t b n:Nat,g.traffic[h]? = some ((t:Int),(b:Int))∧t≤12∧(1≤b∧b≤4)∧g.trunks=(n:Int)∧n≤7∧yA g h 3=qW t b n:=by
 have hG:=hV.grp g hg
 have hlen:=hG.len
 have h3:h < 3:=by have:=hV.num.2.2.2;omega
 obtain ⟨x,hx⟩:∃x,g.traffic[h]? = some x:=⟨g.traffic[h]'(by omega),List.getElem?_eq_getElem _⟩
 obtain ⟨⟨x1,x2⟩,x3,x4⟩:=hG.traf x (List.mem_of_getElem? hx)
 have t0:=hG.tr0
 have t7:=hG.tr7
 obtain ⟨t,b⟩:=x
 simp only at x1 x2 x3 x4
 obtain ⟨t,rfl⟩:=Int.eq_ofNat_of_zero_le x1
 obtain ⟨b,rfl⟩:=Int.eq_ofNat_of_zero_le (show 0≤b by omega)
 refine ⟨t,b,g.trunks.toNat,hx,by omega,⟨by omega,by omega⟩,by omega,by omega,?_⟩
 unfold yA qW
 rw [if_pos h3,hx]
theorem Je {B:Bk} (hV:Valid B) {h:Nat} (hh:(h:Int) < B.hours):∀k,k≤B.gs.length→0≤Jd B h k∧Jd B h k≤1966080000000000 * k
 | 0,_=>⟨by simp [Jd],by simp [Jd]⟩
 | k+1,hk=>by
   obtain ⟨g,hg⟩:∃g,B.gs[k]? = some g:=⟨B.gs[k],List.getElem?_eq_getElem _⟩
   obtain ⟨p,q⟩:=Je hV hh k (by omega)
   obtain ⟨b1,b2,b3⟩:=XN hV (List.mem_of_getElem? hg) hh
   have hq0:=Int.ediv_nonneg (show 0≤1000 * (yA g h 3).1 by omega) (show 0≤(yA g h 3).2 by omega)
   have hq1:=Int.ediv_le_self (yA g h 3).2 (show 0≤1000 * (yA g h 3).1 by omega)
   rw [Xn hg]
   omega
abbrev RN (W:World) (a1 a2 a3 a4 a5 a6:Addr) (v1 v2 v3 v4 v5 v6:Value) (X:World):Prop :=
 X.cell? a1=some v1∧X.cell? a2=some v2∧X.cell? a3=some v3∧X.cell? a4=some v4∧X.cell? a5=some v5∧X.cell? a6=some v6∧Below W.heap.size W X
section
variable {W X Y:World} {a1 a2 a3 a4 a5 a6:Addr} {v1 v2 v3 v4 v5 v6:Value}
theorem RN.call (h:RN W a1 a2 a3 a4 a5 a6 v1 v2 v3 v4 v5 v6 X) (hB:Below X.heap.size X Y):RN W a1 a2 a3 a4 a5 a6 v1 v2 v3 v4 v5 v6 Y :=
 ⟨qb _ hB h.1,qb _ hB h.2.1,qb _ hB h.2.2.1,qb _ hB h.2.2.2.1,qb _ hB h.2.2.2.2.1,qb _ hB h.2.2.2.2.2.1,bcl h.2.2.2.2.2.2 hB⟩
theorem RN.drew (h:RN W a1 a2 a3 a4 a5 a6 v1 v2 v3 v4 v5 v6 X):RN W a1 a2 a3 a4 a5 a6 v1 v2 v3 v4 v5 v6 X.drew:=h.call (Below.refl _ X).drew
theorem RN.alloc (h:RN W a1 a2 a3 a4 a5 a6 v1 v2 v3 v4 v5 v6 X) (o:Obj):RN W a1 a2 a3 a4 a5 a6 v1 v2 v3 v4 v5 v6 (X.alloc o):=h.call ((Below.refl _ X).alloc (Nat.le_refl _) _)
theorem RN.set (h:RN W a1 a2 a3 a4 a5 a6 v1 v2 v3 v4 v5 v6 X) {c i:Nat} (hc:W.heap.size≤c) (h1:a1.block < W.heap.size) (h2:a2.block < W.heap.size) (h3:a3.block < W.heap.size) (h4:a4.block < W.heap.size) (h5:a5.block < W.heap.size) (h6:a6.block < W.heap.size) (u:Value):RN W a1 a2 a3 a4 a5 a6 v1 v2 v3 v4 v5 v6 (X.setCell ⟨c,i,none⟩ u):=by
 have n:∀{a:Addr} {v:Value},a.block < W.heap.size→X.cell? a=some v→(X.setCell ⟨c,i,none⟩ u).cell? a=some v:=fun ha hx=>qc (fun e=>by rw [← e] at ha;exact Nat.lt_irrefl _ (Nat.lt_of_lt_of_le ha hc)) hx
 exact ⟨n h1 h.1,n h2 h.2.1,n h3 h.2.2.1,n h4 h.2.2.2.1,n h5 h.2.2.2.2.1,n h6 h.2.2.2.2.2.1,h.2.2.2.2.2.2.setCell hc _⟩
theorem RN.bel (h:RN W a1 a2 a3 a4 a5 a6 v1 v2 v3 v4 v5 v6 X):Below W.heap.size W X:=h.2.2.2.2.2.2
end
theorem KSt.box5 {w W:World} {l:List (Addr×Value)} (h:KSt w W l) (v0 v1 v2 v3 v4:Value) (ty:TypeId):KSt w (W.alloc (.cells #[v0,v1,v2,v3,v4] ty)) ((⟨W.heap.size,0,none⟩,v0) :: (⟨W.heap.size,1,none⟩,v1) :: (⟨W.heap.size,2,none⟩,v2) :: (⟨W.heap.size,3,none⟩,v3) :: (⟨W.heap.size,4,none⟩,v4) :: l):=by
 have h':=h.call ((Below.refl _ W).alloc (Nat.le_refl _) (.cells #[v0,v1,v2,v3,v4] ty))
 have hF:=(Five.new W v0 v1 v2 v3 v4 ty).c
 refine ⟨fun p hp=>?_,h'.gl,h'.bw⟩
 simp only [List.mem_cons] at hp
 rcases hp with rfl | rfl | rfl | rfl | rfl | hp
 ·exact hF.1
 ·exact hF.2.1
 ·exact hF.2.2.1
 ·exact hF.2.2.2.1
 ·exact hF.2.2.2.2
 ·exact h'.cs p hp
theorem XZ {B:Bk} (h:B.gs.length≤20∧∀x∈B.gs,x.traffic.length≤20∧x.name.size≤100) (k:Nat) (t:Int):(jG B.gs k t).length≤20∧∀x∈jG B.gs k t,x.traffic.length≤20∧x.name.size≤100:=by
 refine ⟨by rw [zu];exact h.1,fun x hx=>?_⟩
 obtain ⟨i,hi,rfl⟩:=List.getElem_of_mem hx
 obtain ⟨y,hy,hxy⟩:=jO (List.getElem?_eq_getElem hi)
 have:=h.2 y (List.mem_of_getElem? hy)
 rcases hxy with ⟨e,_⟩ | ⟨_,e⟩
 ·rw [e];exact this
 ·rw [e];exact this
theorem zh.symm {a b:List Grp} (h:zh a b):zh b a:=⟨h.1.symm,fun i x y hx hy=>let ⟨p,q,r⟩:=h.2 i y x hy hx;⟨p.symm,q.symm,r.symm⟩⟩
def bkZ:Bk:=⟨(0,0),0,0,[],none,0⟩
theorem bkZ_at (w:World):BookAt w bkZ:=⟨fun h=>absurd h (by decide),fun g hg=>(by cases hg),⟨by decide,fun g hg=>(by cases hg)⟩,by decide⟩
structure OB (W:World) (q:Nat) (L:List Grp) (g gc:Nat) (l:List Grp) (tb:Nat→Nat):Prop where
 same:zh L l
 own:OwnGs 0 W g l l.length tb
 cap:l.length≤gc
 ng:q≠g
 nt:∀(i:Nat) y,i < l.length→l[i]? = some y→q≠tb i
section
variable {W W1:World} {q g gc:Nat} {L l:List Grp} {tb:Nat→Nat}
end
end Go.Proofs.Tryz
namespace Go.Proofs.Tryz
open Go Go.Load Go.RowKit Go.Maps
def WithP (base:Nat) (B:Bk) (k:Nat) (t:Int) (e:Ending) (W:World):Prop:=∃g gc,e=.returned (.agg #[.int .i64 B.lim.1,.int .i64 B.lim.2,.int .i64 B.growth,.int .i64 B.hours,.slice (some ⟨g,0,none⟩) B.gs.length gc])∧base≤g∧BookAt W { B with gs:=jG B.gs k t,ga:=some ⟨g,0,none⟩,gc:=gc }
set_option maxHeartbeats 4000000 in
set_option maxRecDepth 100000 in
theorem qcy (B:Bk) (k:Nat) (t:Int) (w:World) (h:BookAt w B) (hk:k < B.gs.length):Calls qg 82 #[bv B,.int .i64 k,.int .i64 t] w fun e w'=>WithP w.heap.size B k t e w'∧Below w.heap.size w w':=by
 obtain ⟨i0,hi,hz0,hz1,hz2⟩:=info_parts qcU
 have hi:=(yS 56).trans hi
 have hU:qg.underlying 24=some (.slice 56):=(zl _).trans Tryz.underlying24
 have hsm:=h.small
 have h20:=hsm.1
 obtain ⟨b,o,hga,hcs⟩:=h.row (by omega)
 have HP:=Lib.hid (YT hcs)
 have HN:=Lib.hid (zy B.gs)
 have HO:Hid (∀u∈qL B.gs,u.oneCell'=true):=Lib.hid fun u hu=>by
  obtain ⟨x,_,hx⟩:=List.mem_flatMap.1 hu
  simp at hx;rcases hx with rfl | rfl | rfl <;> rfl
 have HA:=Lib.hid h
 have HSM:=Lib.hid hsm
 clear h hcs hsm
 obtain ⟨lim,gr,hr,gs,ga,gc⟩:=B
 simp only [bv] at *
 subst hga
 go_enter s82,ntmps82
 go_upto_region 2 with fail
 obtain ⟨W,hW⟩:∃W,W=((w.alloc (.cells #[.int .i64 lim.1,.int .i64 lim.2,.int .i64 gr,.int .i64 hr,.slice (some ⟨b,o,none⟩) gs.length gc] 26)).alloc (.cells #[.int .i64 0,.int .i64 0,.int .i64 0,.int .i64 0,.slice none 0 0] 26)).alloc (.cells #[.int .i64 lim.1,.int .i64 lim.2,.int .i64 gr,.int .i64 hr,.slice (some ⟨b,o,none⟩) gs.length gc] 26):=⟨_,rfl⟩
 have c4:W.cell? ⟨w.heap.size,4,none⟩=some (.slice (some ⟨b,o,none⟩) gs.length gc):=by rw [hW];go_cell
 have F6:Five W (w.heap.size+1) (.int .i64 0) (.int .i64 0) (.int .i64 0) (.int .i64 0) (.slice none 0 0):=by rw [hW];exact ⟨⟨by go_cell,by go_cell,by go_cell,by go_cell,by go_cell⟩,⟨by go_cell,by go_cell,by go_cell,by go_cell,by go_cell⟩⟩
 have F7:Five W (w.heap.size+1+1) (.int .i64 lim.1) (.int .i64 lim.2) (.int .i64 gr) (.int .i64 hr) (.slice (some ⟨b,o,none⟩) gs.length gc):=by rw [hW];exact ⟨⟨by go_cell,by go_cell,by go_cell,by go_cell,by go_cell⟩,⟨by go_cell,by go_cell,by go_cell,by go_cell,by go_cell⟩⟩
 have hBW:Below w.heap.size w W:=by rw [hW];go_grown
 have hWs:w.heap.size+1+1 < W.heap.size:=by rw [hW];simp
 rw [← hW]
 clear hW
 have HPW:Hid (∀j u,(qL gs)[j]? = some u→W.cell? ((⟨b,o,none⟩:Addr).add j)=some u):=Lib.hid fun j u hu=>qb _ hBW (HP.out j u hu)
 have HF6:=Lib.hid F6
 have HF7:=Lib.hid F7
 have HWS:=Lib.hid hWs
 obtain ⟨⟨e0,e1,e2,e3,e4⟩,⟨k0,k1,k2,k3,k4⟩⟩:=id F7
 generalize hz6:w.heap.size+1=z6 at *
 generalize hz7:z6+1=z7 at *
 have HZ:Hid (z6+1=z7∧w.heap.size+1=z6):=Lib.hid ⟨hz7,hz6⟩
 clear hz6 hz7 F6 F7 hWs
 have l3:w.heap.size < W.heap.size:=lt_of_cell c4
 have l7:z7 < W.heap.size:=lt_of_cell e0
 go_upto_region 3 with (at_builtin;refine wpList_append_own _ rfl (.tmp 9) (.tmp 11) 24 rfl W.heap.size 56 i0 (.agg #[.string ⟨#[]⟩,.int .i64 0,.slice none 0 0]) 3 48 hU hi hz0 hz1 hz2 rfl (by decide) _ 0 [] rfl (World.ownsRow_made W #[] 0 (Nat.le_refl _) (by unfold maxLen;omega) rfl) ⟨b,o,none⟩ gs.length gc (qL gs) rfl HN.out (fun j u hu=>qi (HPW.out j u hu)) HO.out (by unfold maxLen;omega) (by omega) (by simp) ?_;intro v1 w3 hown1 hgrow1 hnil1;have hB3:=((Below.refl _ W).alloc (Nat.le_refl _) _).grown hgrow1 (by simp) (fun k hk=>by cases hk;exact Nat.le_refl _);obtain ⟨ng,cap,ev,hb1,hb2,hb3,hb4⟩:=QV hown1 (fun e=>by have:=(hnil1.1 e).1;cases this);rw [Nat.zero_add] at ev hb3;rw [List.nil_append] at hb4;subst ev;clear hown1 hgrow1 hnil1;have e0:=qb _ hB3 e0;have e1:=qb _ hB3 e1;have e2:=qb _ hB3 e2;have e3:=qb _ hB3 e3;have y4:=qf _ hB3 e4 k4;have e4:=qb _ hB3 e4)
 obtain ⟨zz,zw⟩:=id HZ.out
 have hng:z7≠ng:=by omega
 have hng6:ng≠z6:=by omega
 have G7:=HF7.out.keep hB3
 have G6:=HF6.out.keep hB3
 obtain ⟨W4,hW4⟩:∃W4,w3.setCell ⟨z7,4,none⟩ (.slice (some ⟨ng,0,none⟩) gs.length cap)=W4:=⟨_,rfl⟩
 have g7:Five W4 z7 (.int .i64 lim.1) (.int .i64 lim.2) (.int .i64 gr) (.int .i64 hr) (.slice (some ⟨ng,0,none⟩) gs.length cap):=by
  rw [← hW4]
  obtain ⟨⟨a0,a1,a2,a3,a4⟩,⟨b0,b1,b2,b3,b4⟩⟩:=G7
  exact ⟨⟨qc (by simp) a0,qc (by simp) a1,qc (by simp) a2,qc (by simp) a3,zi (qx a4)⟩,⟨by simpa using b0,by simpa using b1,by simpa using b2,by simpa using b3,by simpa using b4⟩⟩
 have g6:Five W4 z6 (.int .i64 0) (.int .i64 0) (.int .i64 0) (.int .i64 0) (.slice none 0 0):=by rw [← hW4];exact G6.at (by omega)
 have hO4:OwnAt W4 ng (qL gs):=by rw [← hW4];exact hb4.other hng
 have hB4:Below w.heap.size w W4:=by rw [← hW4];exact (bcl hBW hB3).setCell (by show w.heap.size≤z7;omega) _
 rw [hW4]
 clear hW4 e0 e1 e2 e3 e4 y4 G7 G6 HPW HF6 HF7 hb4 c4
 obtain ⟨x,hx⟩:∃x,gs[k]? = some x:=⟨gs[k],List.getElem?_eq_getElem hk⟩
 obtain ⟨x0,x1⟩:=hO4 _ _ (zb gs k x hx).2.1
 obtain ⟨⟨e0,e1,e2,e3,e4⟩,_⟩:=id g7
 have hki:(k:Int) < (gs.length:Int):=by omega
 have hk0:(0:Int)≤(k:Int):=Int.natCast_nonneg k
 have HX:=Lib.hid hx
 clear hx zz zw
 go_upto_region 4 with fail
 have g7:=g7.at (c:=ng) (j:=k * 3+1) (v:=.int .i64 t) hng.symm
 have g6:=g6.at (c:=ng) (j:=k * 3+1) (v:=.int .i64 t) hng6
 have hB5:=hB4.setCell (p:=⟨ng,k * 3+1,none⟩) (show w.heap.size≤ng by have:=hBW.size;omega) (.int .i64 t)
 have hO5:=hO4.set (j:=k * 3+1) (v:=.int .i64 t) (by rw [zy];omega)
 rw [← xK gs k x t HX.out,← QX HX.out] at hO5
 obtain ⟨W5,hW5⟩:∃W5,W4.setCell ⟨ng,k * 3+1,none⟩ (.int .i64 t)=W5:=⟨_,rfl⟩
 rw [hW5] at g7 g6 hB5 hO5 ⊢
 clear hW5 x0 x1 e0 e1 e2 e3 e4 hO4 hB4
 obtain ⟨⟨e0,e1,e2,e3,e4⟩,_⟩:=id g7
 obtain ⟨⟨c0,c1,c2,c3,c4⟩,⟨f0,f1,f2,f3,f4⟩⟩:=id g6
 go_wp2
 obtain ⟨zz,zw⟩:=id HZ.out
 refine qde results82 zZ zO rfl c0 c1 c2 c3 c4 ⟨⟨ng,cap,rfl,Nat.le_trans hBW.size hb1,?_⟩,Below.set5 hB5 (by omega)⟩
 have hO6:=hO5.five (b:=z6) (v0:=.int .i64 lim.1) (v1:=.int .i64 lim.2) (v2:=.int .i64 gr) (v3:=.int .i64 hr) (v4:=.slice (some ⟨ng,0,none⟩) gs.length cap) hng6.symm
 refine ⟨fun _=>⟨ng,0,rfl,Xc hO6⟩,fun y hy hl=>?_,⟨by show (jG gs k t).length≤20;rw [zu];exact HSM.out.1,(XZ HSM.out k t).2⟩,by show (jG gs k t).length≤cap;rw [zu];exact hb3⟩
 obtain ⟨i,hi',rfl⟩:=List.getElem_of_mem hy
 obtain ⟨v,hv,hvv⟩:=jO (List.getElem?_eq_getElem hi')
 have hT:=(HA.out.traf v (List.mem_of_getElem? hv)).keep (Below.set5 hB5 (b:=z6) (v0:=.int .i64 lim.1) (v1:=.int .i64 lim.2) (v2:=.int .i64 gr) (v3:=.int .i64 hr) (v4:=.slice (some ⟨ng,0,none⟩) gs.length cap) (by omega))
 rcases hvv with ⟨e,_⟩ | ⟨_,e⟩
 ·rw [e] at hl ⊢;exact hT hl
 ·rw [e] at hl ⊢;exact hT hl
end Go.Proofs.Tryz
namespace Go.Proofs.Tryz
open Go Go.Load Go.RowKit
def lessB (t b n:Nat):Bool:=!above (jD (low (t:Int) (b:Int)) (n+1)) (jD (low (t:Int) (b:Int)) n)
theorem less_all:((List.range 13).all fun t=>(List.range 4).all fun b=>(List.range 6).all fun n=>lessB t (b+1) n)=true:=by decide +kernel
theorem qdR {t b n:Nat} (ht:t≤12) (hb:1≤b∧b≤4) (hn:n≤5):lessB t b n=true:=by
 have k:=yu (yu (yu less_all (show t < 13 by omega)) (show b - 1 < 4 by omega)) (show n < 6 by omega)
 rwa [show b - 1+1=b by omega] at k
theorem qbK {g x:Grp} (h:Nat) (e1:g.traffic=x.traffic) (e2:g.trunks=x.trunks):qo g h=qo x h:=by
 unfold qo
 rw [e1,e2]
theorem grp_less {B:Bk} (hV:Valid B) {h:Nat} (hh:(h:Int) < B.hours) {g:Grp} (hg:g∈B.gs) (h6:g.trunks≤5):above (qo { g with trunks:=g.trunks+1 } h) (qo g h)=false:=by
 obtain ⟨t,b,n,hx,ht,hb,hn,h7,_⟩:=Yy hV hh hg
 have k:=qdR (n:=n) ht hb (by omega)
 unfold lessB at k
 have e:g.traffic.getD h (0,1)=((t:Int),(b:Int)):=by rw [List.getD_eq_getElem?_getD,hx];rfl
 unfold qo
 simp only [e,hn]
 rw [show ((n:Int)+1).toNat=n+1 by omega,Int.toNat_natCast]
 simpa using k
theorem qcF {l:List Grp} {k:Nat} {x:Grp} (hx:l[k]? = some x):xy l (k:Int)=jG l k (x.trunks+1):=by
 unfold xy
 rw [if_neg (by omega),Int.toNat_natCast,hx,QX hx]
def jW (h:Nat) (l:List Grp):Nat→List Grp
 | 0=>l
 | n+1=>xy (jW h l n) (yO h (jW h l n))
theorem Ja (h:Nat) (l:List Grp):∀n,jW h l (n+1)=jW h (xy l (yO h l)) n
 | 0=>rfl
 | n+1=>by rw [jW,Ja h l n,← jW]
theorem Jb {h:Nat} {l:List Grp} (e:yO h l=-1):∀n,jW h l n=l
 | 0=>rfl
 | n+1=>by rw [jW,Jb e n,e];rfl
theorem qcO (h:Nat):∀(n:Nat) (l:List Grp) (i:Nat),i < n→(Zj n (qV h n l))[i]? = some (yO h (jW h l i))
 | 0,_,_,hi=>absurd hi (Nat.not_lt_zero _)
 | n+1,l,i,hi=>by
   unfold Zj
   rw [qV]
   split
   ·rename_i e
    rw [Jb e,e,List.nil_append,List.length_nil,Nat.sub_zero,List.getElem?_replicate,if_pos hi]
   ·cases i with
    | zero=>rfl
    | succ i =>
      have:=qcO h n (xy l (yO h l)) i (by omega)
      unfold Zj at this
      rw [List.cons_append,List.getElem?_cons_succ,List.length_cons,Nat.add_sub_add_right,this,Ja]
theorem qcP (n:Nat) (L:List Int) (h:L.length≤n):(Zj n L).length=n:=by
 unfold Zj
 rw [List.length_append,List.length_replicate]
 omega
theorem qam {B:Bk} (hV:Valid B) {h:Nat} (hh:(h:Int) < B.hours):(yO h B.gs=-1∧∀g∈B.gs,g.trunks=7)∨∃(k:Nat) (x:Grp),yO h B.gs=(k:Int)∧B.gs[k]? = some x∧x.trunks≠7∧∀(j:Nat) (g':Grp),B.gs[j]? = some g'→g'.trunks≠7→above (qo g' h) (qo x h)=false:=by
 have hP:=Jn hV hh B.gs.length (Nat.le_refl _)
 rw [← Jm]
 by_cases e:(qF B h B.gs.length).1=-1
 ·refine .inl ⟨e,fun g hg=>?_⟩
  obtain ⟨j,hj,rfl⟩:=List.getElem_of_mem hg
  exact (hP.none e).2 j _ hj (List.getElem?_eq_getElem hj)
 ·obtain ⟨k,x,hk,e1,hx,h7,e2,hall⟩:=hP.some e
  refine .inr ⟨k,x,e1,hx,h7,fun j g' hg' h7'=>?_⟩
  rw [← e2]
  exact (hall j g' (List.getElem?_eq_some_iff.1 hg').1 hg' h7').1
structure SprI (B:Bk) (h:Nat) (s:List Grp):Prop where
 chk:checkN { B with gs:=s }=0
 len:s.length=B.gs.length
 get:∀(i:Nat) g,s[i]? = some g→∃x,B.gs[i]? = some x∧g.name=x.name∧g.traffic=x.traffic∧x.trunks≤g.trunks
 best:∀(i k:Nat) g x g',s[i]? = some g→B.gs[i]? = some x→g.trunks≠x.trunks→k≠i→s[k]? = some g'→g'.trunks≠7→above (qo g' h) (qo { g with trunks:=g.trunks - 1 } h)=false
theorem SprI.first {B:Bk} (hc:checkN B=0) (h:Nat):SprI B h B.gs:=⟨hc,rfl,fun i g hg=>⟨g,hg,rfl,rfl,Int.le_refl _⟩,fun i k g x g' hg hx hn=>by rw [hg] at hx;cases hx;exact absurd rfl hn⟩
theorem SprI.valid {B:Bk} {h:Nat} {s:List Grp} (H:SprI B h s):Valid { B with gs:=s }:=qB H.chk
theorem qgC {B:Bk} (hV:Valid B) {h:Nat} (hh:(h:Int) < B.hours) {g:Grp} (hg:g∈B.gs) (h7:g.trunks≠7):0 < (qo g h).2:=by
 obtain ⟨j,hj,rfl⟩:=List.getElem_of_mem hg
 exact ym hV hh (List.getElem?_eq_getElem hj) h7
theorem SprI.last_pos {B:Bk} {h:Nat} {s:List Grp} (H:SprI B h s) (hV:Valid B) (hh:(h:Int) < B.hours) {i:Nat} {g x:Grp} (hg:s[i]? = some g) (hx:B.gs[i]? = some x) (hn:g.trunks≠x.trunks) :
 0≤g.trunks - 1∧g.trunks - 1≤6∧checkN { B with gs:=jG s i (g.trunks - 1) }=0∧0 < (qo { g with trunks:=g.trunks - 1 } h).2:=by
 obtain ⟨y,hy,_,_,e3⟩:=H.get i g hg
 rw [hx] at hy
 cases hy
 have t0:=(hV.grp x (List.mem_of_getElem? hx)).tr0
 have t7:=(H.valid.grp g (List.mem_of_getElem? hg)).tr7
 have hc:=XI (B:={ B with gs:=s }) H.chk (k:=i) (t:=g.trunks - 1) (by omega) (by omega)
 refine ⟨by omega,by omega,hc,?_⟩
 have hget:(jG s i (g.trunks - 1))[i]? = some { g with trunks:=g.trunks - 1 }:=by
  rw [QX hg,List.getElem?_set_self (List.getElem?_eq_some_iff.1 hg).1]
 exact ym (B:={ B with gs:=jG s i (g.trunks - 1) }) (qB hc) hh hget (by show g.trunks - 1≠7;omega)
theorem SprI.step {B:Bk} {h:Nat} {s:List Grp} (H:SprI B h s) (hV:Valid B) (hh:(h:Int) < B.hours):SprI B h (xy s (yO h s)):=by
 rcases qam H.valid hh with ⟨e,_⟩ | ⟨m,y,e,hy,h7,hall⟩
 ·simp only at e
  rw [e]
  exact H
 ·simp only at e hy hall
  rw [e,qcF hy]
  have hGy:=H.valid.grp y (List.mem_of_getElem? hy)
  have y0:=hGy.tr0
  have y7:=hGy.tr7
  have hc:=XI (B:={ B with gs:=s }) H.chk (k:=m) (t:=y.trunks+1) (by omega) (by omega)
  refine ⟨hc,by rw [zu,H.len],fun i g hg=>?_,fun i k g x g' hg hx hn hki hg' hg7=>?_⟩
  ·obtain ⟨z,hz,hgz⟩:=jO hg
   obtain ⟨x,hx,e1,e2,e3⟩:=H.get i z hz
   rcases hgz with ⟨rfl,_⟩ | ⟨rfl,rfl⟩
   ·exact ⟨x,hx,e1,e2,e3⟩
   ·rw [hy] at hz
    cases hz
    exact ⟨x,hx,e1,e2,by show x.trunks≤y.trunks+1;omega⟩
  ·obtain ⟨z,hz,hgz⟩:=jO hg
   obtain ⟨z',hz',hgz'⟩:=jO hg'
   rcases hgz with ⟨rfl,hne⟩ | ⟨rfl,rfl⟩
   ·rcases hgz' with ⟨rfl,hne'⟩ | ⟨rfl,rfl⟩
    ·exact H.best i k g x g' hz hx hn hki hz' hg7
    ·rw [hy] at hz'
     cases hz'
     have h1:=H.best i k g x y hz hx hn hki hy h7
     have h2:=grp_less H.valid hh (List.mem_of_getElem? hy) (by have:y.trunks+1≠7:=hg7;omega)
     have hget:(jG s k (y.trunks+1))[k]? = some { y with trunks:=y.trunks+1 }:=by
      rw [QX hy,List.getElem?_set_self (List.getElem?_eq_some_iff.1 hy).1]
     exact YE (ym (B:={ B with gs:=jG s k (y.trunks+1) }) (qB hc) hh hget hg7) (qgC H.valid hh (List.mem_of_getElem? hy) h7) (H.last_pos hV hh hz hx hn).2.2.2 h2 h1
   ·rw [hy] at hz
    cases hz
    rcases hgz' with ⟨rfl,_⟩ | ⟨rfl,_⟩
    ·have:=hall k g' hz' hg7
     rw [qbK (g:={ y with trunks:=y.trunks+1 - 1 }) (x:=y) h rfl (by show y.trunks+1 - 1=y.trunks;omega)]
     exact this
    ·exact absurd rfl hki
theorem SprI.all {B:Bk} (hc:checkN B=0) {h:Nat} (hh:(h:Int) < B.hours):∀n,SprI B h (jW h B.gs n)
 | 0=>.first hc h
 | n+1=>(SprI.all hc hh n).step (qB hc) hh
def jY (B:Bk) (n m:Int):Int:=if checkN B=0 then (if btw n 0 (m - 1) then 0 else 6) else checkN B
set_option maxHeartbeats 2000000 in
set_option maxRecDepth 100000 in
theorem Yu (B:Bk) (n:Int) (w:World) (h:BookAt w B):Calls qg 78 #[bv B,.int .i64 n] w fun e w'=>e=.returned (.int .i64 (jY B n B.hours))∧Below w.heap.size w w':=by
 have hck:=fun W (hB:Below w.heap.size w W)=>XQ B W (h.keep hB)
 unfold jY
 by_cases hc:checkN B=0
 ·have hw:=(qB hc).num.2.2
  have ww:IntKind.i64.wrap (B.hours - 1)=B.hours - 1:=by rw [IntKind.wrap_i64];omega
  rw [if_pos hc]
  rw [hc] at hck
  have hin:∀W,Calls qg 51 #[.int .i64 n,.int .i64 0,.int .i64 (B.hours - 1)] W fun e w'=>e=.returned (.bool (btw n 0 (B.hours - 1)))∧W=w':=fun W=>by
   by_cases hb:0≤n∧n≤B.hours - 1
   ·rw [zq.2 hb];exact yT _ _ _ W hb
   ·rw [show btw n 0 (B.hours - 1)=false by rw [Bool.eq_false_iff];exact fun e=>hb (zq.1 e)];exact Yg _ _ _ W hb
  generalize btw n 0 (B.hours - 1)=t at *
  clear hc h
  obtain ⟨lim,gr,hr,gs,ga,gc⟩:=B
  simp only [bv] at *
  cases t <;>
  ·go_enter s78,ntmps78
   go_wp2_with (first | (go_at_call 11;(with_reducible refine (hck _ (by go_grown)).mono ?_);rintro e w1 ⟨rfl,hB1⟩;(first | (replace hB:=bcl (by with_reducible assumption) hB1) | (replace hB:=bcl (by go_grown) hB1) | (have hB:=hB1));(try clear hc hg hz);obtain ⟨hc,hg⟩:=qp hB;have hz:=hB.size;clear hB1;(try simp at hz);(try have hlt0:w.heap.size < w1.heap.size:=by omega)) | (go_at_call 51;(with_reducible refine (hin _).mono ?_);rintro e w1 ⟨rfl,rfl⟩))
   go_ret
   exact ⟨rfl,bcl (w:=w) (by go_grown) hB⟩
 ·rw [if_neg hc]
  have hb:(checkN B != 0)=true:=bne_iff_ne.2 hc
  generalize checkN B=r at *
  obtain ⟨lim,gr,hr,gs,ga,gc⟩:=B
  simp only [bv] at *
  clear h
  go_enter s78,ntmps78
  go_wp2_with (go_at_call 11;(with_reducible refine (hck _ (by go_grown)).mono ?_);rintro e w1 ⟨rfl,hB1⟩;(first | (replace hB:=bcl (by with_reducible assumption) hB1) | (replace hB:=bcl (by go_grown) hB1) | (have hB:=hB1));(try clear hc hg hz);obtain ⟨hc,hg⟩:=qp hB;have hz:=hB.size;clear hB1;(try simp at hz);(try have hlt0:w.heap.size < w1.heap.size:=by omega))
  go_ret
  exact ⟨rfl,bcl (w:=w) (by go_grown) hB⟩
set_option maxHeartbeats 2000000 in
set_option maxRecDepth 100000 in
theorem askG_any (B:Bk) (n:Int) (w:World) (h:BookAt w B):Calls qg 48 #[bv B,.int .i64 n] w fun e w'=>e=.returned (.int .i64 (jY B n B.gs.length))∧Below w.heap.size w w':=by
 have hck:=fun W (hB:Below w.heap.size w W)=>XQ B W (h.keep hB)
 have h20:=h.small.1
 unfold jY
 by_cases hc:checkN B=0
 ·have ww:IntKind.i64.wrap ((B.gs.length:Int) - 1)=(B.gs.length:Int) - 1:=by rw [IntKind.wrap_i64];omega
  rw [if_pos hc]
  rw [hc] at hck
  have hin:∀W,Calls qg 51 #[.int .i64 n,.int .i64 0,.int .i64 ((B.gs.length:Int) - 1)] W fun e w'=>e=.returned (.bool (btw n 0 ((B.gs.length:Int) - 1)))∧W=w':=fun W=>by
   by_cases hb:0≤n∧n≤(B.gs.length:Int) - 1
   ·rw [zq.2 hb];exact yT _ _ _ W hb
   ·rw [show btw n 0 ((B.gs.length:Int) - 1)=false by rw [Bool.eq_false_iff];exact fun e=>hb (zq.1 e)];exact Yg _ _ _ W hb
  generalize btw n 0 ((B.gs.length:Int) - 1)=t at *
  clear hc h
  obtain ⟨lim,gr,hr,gs,ga,gc⟩:=B
  simp only [bv] at *
  cases t <;>
  ·go_enter s48,ntmps48
   go_wp2_with (first | (go_at_call 11;(with_reducible refine (hck _ (by go_grown)).mono ?_);rintro e w1 ⟨rfl,hB1⟩;(first | (replace hB:=bcl (by with_reducible assumption) hB1) | (replace hB:=bcl (by go_grown) hB1) | (have hB:=hB1));(try clear hc hg hz);obtain ⟨hc,hg⟩:=qp hB;have hz:=hB.size;clear hB1;(try simp at hz);(try have hlt0:w.heap.size < w1.heap.size:=by omega)) | (go_at_call 51;(with_reducible refine (hin _).mono ?_);rintro e w1 ⟨rfl,rfl⟩))
   go_ret
   exact ⟨rfl,bcl (w:=w) (by go_grown) hB⟩
 ·rw [if_neg hc]
  have hb:(checkN B != 0)=true:=bne_iff_ne.2 hc
  generalize checkN B=r at *
  obtain ⟨lim,gr,hr,gs,ga,gc⟩:=B
  simp only [bv] at *
  clear h
  go_enter s48,ntmps48
  go_wp2_with (go_at_call 11;(with_reducible refine (hck _ (by go_grown)).mono ?_);rintro e w1 ⟨rfl,hB1⟩;(first | (replace hB:=bcl (by with_reducible assumption) hB1) | (replace hB:=bcl (by go_grown) hB1) | (have hB:=hB1));(try clear hc hg hz);obtain ⟨hc,hg⟩:=qp hB;have hz:=hB.size;clear hB1;(try simp at hz);(try have hlt0:w.heap.size < w1.heap.size:=by omega))
  go_ret
  exact ⟨rfl,bcl (w:=w) (by go_grown) hB⟩
abbrev RV (w:World) (zg zr tb q:Nat) (n:Int) (sl:Value) (a:Int×Int) (X:World):Prop :=
 X.cell? ⟨zg,1,none⟩=some (.int .i64 n)∧X.cell? ⟨zg,2,none⟩=some sl∧X.cell? ⟨tb,q,none⟩=some (.int .i64 a.1)∧X.cell? ⟨tb,q+1,none⟩=some (.int .i64 a.2)∧X.cell? ⟨zr,0,none⟩=some (atD X ⟨zr,0,none⟩)∧X.cell? ⟨zr,1,none⟩=some (atD X ⟨zr,1,none⟩)∧X.frozen? ⟨zr,0,none⟩=false∧X.frozen? ⟨zr,1,none⟩=false∧Below w.heap.size w X
section
variable {w X Y:World} {zg zr tb q:Nat} {n:Int} {sl:Value} {a:Int×Int}
theorem RV.call (h:RV w zg zr tb q n sl a X) (hB:Below X.heap.size X Y):RV w zg zr tb q n sl a Y:=by
 obtain ⟨h1,h2,h3,h4,h5,h6,h7,h8,h9⟩:=h
 exact ⟨qb _ hB h1,qb _ hB h2,qb _ hB h3,qb _ hB h4,qK (qx (qb _ hB h5)),qK (qx (qb _ hB h6)),qf _ hB h5 h7,qf _ hB h6 h8,bcl h9 hB⟩
theorem RV.drew (h:RV w zg zr tb q n sl a X):RV w zg zr tb q n sl a X.drew:=h.call (Below.refl _ X).drew
theorem RV.put (u v:Value) (h:RV w zg zr tb q n sl a X) (h1:zr≠zg) (h2:zr≠tb) (h3:w.heap.size≤zr):RV w zg zr tb q n sl a ((X.setCell ⟨zr,0,none⟩ u).setCell ⟨zr,1,none⟩ v):=by
 obtain ⟨k1,k2,k3,k4,k5,k6,k7,k8,k9⟩:=h
 have n1:∀p q,(⟨zr,p,none⟩:Addr)≠⟨zg,q,none⟩:=fun p q h=>h1 (congrArg Addr.block h)
 have n2:∀p q,(⟨zr,p,none⟩:Addr)≠⟨tb,q,none⟩:=fun p q h=>h2 (congrArg Addr.block h)
 exact ⟨qc (n1 _ _) (qc (n1 _ _) k1),qc (n1 _ _) (qc (n1 _ _) k2),qc (n2 _ _) (qc (n2 _ _) k3),qc (n2 _ _) (qc (n2 _ _) k4),qK (qy (qy (qx k5))),qK (qy (qy (qx k6))),by simpa using k7,by simpa using k8,(k9.setCell h3 _).setCell h3 _⟩
end
set_option maxHeartbeats 4000000 in
set_option maxRecDepth 100000 in
theorem qgq (nm:ByteArray) (t c n m tb tq ho tc:Nat) (w:World) (p0:w.cell? ⟨tb,tq+ho * 2,none⟩=some (.int .i64 t)) (p1:w.cell? ⟨tb,tq+ho * 2+1,none⟩=some (.int .i64 c)) (hh:ho < m) (hm:m≤20) (ht:t≤12) (hc:1≤c∧c≤4) (hn:n≤6) :
 Calls qg 80 #[.agg #[.string nm,.int .i64 n,.slice (some ⟨tb,tq,none⟩) m tc],.int .i64 ho] w fun e w'=>e=.returned (fv (XU t c n))∧Below w.heap.size w w':=by
 have l1:tb < w.heap.size:=lt_of_cell p0
 have n6:IntKind.i64.wrap ((n:Int)+1)=(n:Int)+1:=by rw [IntKind.wrap_i64];omega
 have hl1:=fun W=>Zy t c n ht hc (by omega) W
 have hl2:=fun W=>Zy t c (n+1) ht hc (by omega) W
 rw [show ((n+1:Nat):Int)=(n:Int)+1 from rfl] at hl2
 have hf:=ZV ht hc hn
 unfold qgz at hf
 simp only [Bool.and_eq_true,decide_eq_true_eq,Bool.not_eq_true',beq_iff_eq] at hf
 obtain ⟨⟨⟨⟨⟨⟨⟨f1,f2⟩,k1⟩,k2⟩,a1⟩,⟨⟨m1,m2⟩,m3⟩⟩,sv⟩,f3⟩:=hf
 have sd:XU t c n=qeh ((qW t c n).1 * (qW t c (n+1)).2 - (qW t c (n+1)).1 * (qW t c n).2).toNat ((qW t c n).2 * (qW t c (n+1)).2).toNat:=rfl
 generalize XU t c n=u at *
 generalize qW t c n=x at *
 generalize qW t c (n+1)=y at *
 obtain ⟨u1,u2⟩:=u
 obtain ⟨x1,x2⟩:=x
 obtain ⟨y1,y2⟩:=y
 simp only [okS] at k1 k2
 have hmi:=fun W=>qeC (x1,x2) (y1,y2) W k1.1 k1.2.2.1 k2.1 k2.2.2.1 m1 m2 m3
 simp only [← sd] at hmi
 have j1:(ho:Int) < (m:Int):=by omega
 have j2:(0:Int)≤(ho:Int):=Int.natCast_nonneg ho
 simp only [fv] at hl1 hl2 hmi ⊢
 clear f1 f2 k1 k2 a1 m1 m2 m3 sv f3 sd
 go_enter s80,ntmps80
 go_upto_region 1 with fail
 obtain ⟨W,hW⟩:∃W,(w.alloc (.cells #[.string nm,.int .i64 n,.slice (some ⟨tb,tq,none⟩) m tc] 56)).alloc (.cells #[.int .i64 0,.int .i64 0] 23)=W:=⟨_,rfl⟩
 have g1:W.cell? ⟨w.heap.size,1,none⟩=some (.int .i64 n):=by subst hW;go_cell
 have g2:W.cell? ⟨w.heap.size,2,none⟩=some (.slice (some ⟨tb,tq,none⟩) m tc):=by subst hW;go_cell
 have r0:W.cell? ⟨w.heap.size+1,0,none⟩=some (.int .i64 0):=by subst hW;go_cell
 have r1:W.cell? ⟨w.heap.size+1,1,none⟩=some (.int .i64 0):=by subst hW;go_cell
 have r2:W.frozen? ⟨w.heap.size+1,0,none⟩=false:=by subst hW;go_cell
 have r3:W.frozen? ⟨w.heap.size+1,1,none⟩=false:=by subst hW;go_cell
 have hBW:Below w.heap.size w W:=by subst hW;go_grown
 have hS:RV w w.heap.size (w.heap.size+1) tb (tq+ho * 2) n (.slice (some ⟨tb,tq,none⟩) m tc) ((t:Int),(c:Int)) W:=⟨g1,g2,qb _ hBW p0,qb _ hBW p1,qK (qx r0),qK (qx r1),r2,r3,hBW⟩
 have z1:w.heap.size+1≠w.heap.size:=by omega
 have z2:w.heap.size+1≠tb:=by omega
 have z3:w.heap.size≤w.heap.size+1:=by omega
 have Z1:=Lib.hid z1
 have Z2:=Lib.hid z2
 have Z3:=Lib.hid z3
 rw [hW]
 clear hW g1 g2 r0 r1 r2 r3 hBW p0 p1 z1 z2 z3 l1
 generalize w.heap.size+1=zr at *
 go_region_held3 (RV w w.heap.size zr tb (tq+ho * 2) n (.slice (some ⟨tb,tq,none⟩) m tc) ((t:Int),(c:Int))) (first | exact RV.drew hS | exact hX | exact RV.put _ _ hX Z1.out Z2.out Z3.out) (first | (go_at_call 84;(with_reducible refine (hl1 _).mono ?_);rintro e wy ⟨rfl,hB⟩;have hX:=RV.call (by assumption) hB) | (go_at_call 84;(with_reducible refine (hl2 _).mono ?_);rintro e wy ⟨rfl,hB⟩;have hX:=RV.call (by assumption) hB) | (go_at_call 121;(with_reducible refine (hmi _).mono ?_);rintro e wy ⟨rfl,hB⟩;have hX:=RV.call (by assumption) hB))
 all_goals
  obtain ⟨_,_,_,_,s0,s1,_,_,hB⟩:=hX
  go_wp2
  exact yf results80 qY qQ rfl s0 s1 ⟨rfl,(hB.setCell Z3.out _).setCell Z3.out _⟩
theorem XR {B:Bk} (hV:Valid B) {h:Nat} (hh:(h:Int) < B.hours) {g:Grp} (hg:g∈B.gs) (h7:g.trunks≠7) (w:World) (hb:yD w g) (hs:g.traffic.length≤20) :
 Calls qg 80 #[gv g,.int .i64 h] w fun e w'=>e=.returned (fv (qo g h))∧Below w.heap.size w w':=by
 obtain ⟨t,c,n,hx,ht,hc,hn,hn7,_⟩:=Yy hV hh hg
 have hl:=(List.getElem?_eq_some_iff.1 hx).1
 obtain ⟨tb,tq,eta,hp⟩:=hb (by omega)
 obtain ⟨p0,p1⟩:=hp h _ hx
 have hf:=ZV (n:=n) ht hc (by omega)
 unfold qgz at hf
 simp only [Bool.and_eq_true,decide_eq_true_eq,Bool.not_eq_true',beq_iff_eq] at hf
 have e:qo g h=XU t c n:=by
  unfold qo
  rw [List.getD_eq_getElem?_getD,hx,hn,Int.toNat_natCast]
  exact hf.1.2.symm
 rw [e]
 unfold gv
 rw [eta,hn]
 exact qgq g.name t c n g.traffic.length tb tq h g.tc w p0 p1 hl hs ht hc (by omega)
theorem qdy {B:Bk} {h k:Nat} {g:Grp} (hg:B.gs[k]? = some g) (h7:g.trunks=7):qF B h (k+1)=qF B h k:=by simp only [qF,hg,if_pos h7]
theorem qdz {B:Bk} {h k:Nat} {g:Grp} (hg:B.gs[k]? = some g) (h7:g.trunks≠7) (hc:(qF B h k).1=-1∨above (qo g h) (qF B h k).2=true):qF B h (k+1)=((k:Int),qo g h):=by simp only [qF,hg,if_neg h7,if_pos hc]
theorem qdx {B:Bk} {h k:Nat} {g:Grp} (hg:B.gs[k]? = some g) (h7:g.trunks≠7) (hc:¬ ((qF B h k).1=-1∨above (qo g h) (qF B h k).2=true)):qF B h (k+1)=qF B h k:=by simp only [qF,hg,if_neg h7,if_neg hc]
abbrev R7 (W:World) (a1 a2 a3 a4 a5 a6 a7:Addr) (v1 v2 v3 v4 v5 v6 v7:Value) (X:World):Prop :=
 X.cell? a1=some v1∧X.cell? a2=some v2∧X.cell? a3=some v3∧X.cell? a4=some v4∧X.cell? a5=some v5∧X.cell? a6=some v6∧X.cell? a7=some v7∧Below W.heap.size W X
section
variable {W X Y:World} {a1 a2 a3 a4 a5 a6 a7:Addr} {v1 v2 v3 v4 v5 v6 v7:Value}
theorem R7.call (h:R7 W a1 a2 a3 a4 a5 a6 a7 v1 v2 v3 v4 v5 v6 v7 X) (hB:Below X.heap.size X Y):R7 W a1 a2 a3 a4 a5 a6 a7 v1 v2 v3 v4 v5 v6 v7 Y:=by
 obtain ⟨h1,h2,h3,h4,h5,h6,h7,hb⟩:=h
 exact ⟨qb _ hB h1,qb _ hB h2,qb _ hB h3,qb _ hB h4,qb _ hB h5,qb _ hB h6,qb _ hB h7,bcl hb hB⟩
theorem R7.bel (h:R7 W a1 a2 a3 a4 a5 a6 a7 v1 v2 v3 v4 v5 v6 v7 X):Below W.heap.size W X:=h.2.2.2.2.2.2.2
theorem R7.drew (h:R7 W a1 a2 a3 a4 a5 a6 a7 v1 v2 v3 v4 v5 v6 v7 X):R7 W a1 a2 a3 a4 a5 a6 a7 v1 v2 v3 v4 v5 v6 v7 X.drew:=h.call (Below.refl _ X).drew
end
set_option maxHeartbeats 4000000 in
set_option maxRecDepth 100000 in
theorem XF (B:Bk) (h:Nat) (w:World) (hb:BookAt w B) (hV:Valid B) (hh:(h:Int) < B.hours):Calls qg 79 #[bv B,.int .i64 h] w fun e w'=>e=.returned (.int .i64 (qF B h B.gs.length).1)∧Below w.heap.size w w':=by
 have hl4:=hV.len4
 obtain ⟨b,o,hga,hcs⟩:=hb.row hV.len1
 have HC:=Lib.hid hcs
 have HB:=Lib.hid hb
 have HSV:=Lib.hid fun (g:Grp) (hg:g∈B.gs) (h7:g.trunks≠7) W (hB:Below w.heap.size w W)=>XR hV hh hg h7 W ((hb.traf g hg).keep hB) (hb.small.2 g hg).1
 have HGF:=Lib.hid fun (j:Nat) (g:Grp) (hg:B.gs[j]? = some g) (h7:g.trunks≠7)=>grp_fair hV hh hg h7
 have HP:=Lib.hid fun k hk=>Jn hV hh k hk
 have HSK:=Lib.hid fun (k:Nat) (g:Grp) (hg:B.gs[k]? = some g)=>qdy (h:=h) hg
 have HTK:=Lib.hid fun (k:Nat) (g:Grp) (hg:B.gs[k]? = some g)=>qdz (h:=h) hg
 have HHO:=Lib.hid fun (k:Nat) (g:Grp) (hg:B.gs[k]? = some g)=>qdx (h:=h) hg
 have HT7:=Lib.hid fun (g:Grp) (hg:g∈B.gs)=>(show 0≤g.trunks∧g.trunks≤7 from ⟨(hV.grp g hg).tr0,(hV.grp g hg).tr7⟩)
 have h00:(qF B h 0).1=-1:=rfl
 clear hcs hb hV hh
 obtain ⟨lim,gr,hr,gs,ga,gc⟩:=B
 simp only [bv] at *
 subst hga
 go_enter s79,ntmps79
 go_upto_region 2 with fail
 obtain ⟨W,hW⟩:∃W,w.alloc (.cells #[.int .i64 lim.1,.int .i64 lim.2,.int .i64 gr,.int .i64 hr,.slice (some ⟨b,o,none⟩) gs.length gc] 26)=W:=⟨_,rfl⟩
 have k4:W.cell? ⟨w.heap.size,4,none⟩=some (.slice (some ⟨b,o,none⟩) gs.length gc):=by subst hW;go_cell
 have hBW:Below w.heap.size w W:=by subst hW;go_grown
 rw [hW]
 clear hW
 have HBW:=Lib.hid hBW
 clear hBW
 generalize w.heap.size=z at k4 ⊢
 go_wp2
 go_loopw [5,6] (fun s i wr=>∃k:Nat,i=.int .i64 k∧k≤gs.length∧s=.int .i64 (qF ⟨lim,gr,hr,gs,some ⟨b,o,none⟩,gc⟩ h k).1∧Below W.heap.size W wr) (fun _ i _=>gs.length - (intOf i).toNat)
 case atStart=>exact ⟨0,rfl,Nat.zero_le _,by rw [h00],.refl _ _⟩
 case round =>
  obtain ⟨k,rfl,hk,rfl,hBr⟩:=hrel
  have k4':=qb _ hBr k4
  by_cases hlt:k < gs.length
  ·obtain ⟨g,hg⟩:∃g,gs[k]? = some g:=⟨gs[k],List.getElem?_eq_getElem hlt⟩
   have hm:=List.mem_of_getElem? hg
   obtain ⟨c0,c1,c2⟩:=HC.out k g hg
   have hBr':=bcl HBW.out hBr
   have c0:=qb _ hBr' c0
   have c1:=qb _ hBr' c1
   have c2:=qb _ hBr' c2
   have j1:(k:Int) < (gs.length:Int):=by omega
   have j2:(0:Int)≤(k:Int):=Int.natCast_nonneg k
   have ht:=HT7.out g hm
   have HGK:=Lib.hid hg
   have HM:=Lib.hid hm
   clear hg hm
   go_upto_region 5 with fail
   by_cases h7:g.trunks=7
   ·have e:=HSK.out k g HGK.out h7
    have HE:=Lib.hid e
    rw [h7] at c1
    clear e c0 c2 h7 ht
    go_quiet (fail)
    go_wp2
    go_roundw
    case rel=>exact ⟨k+1,rfl,by omega,by rw [HE.out],below_drewN hBr _⟩
    case measure=>simp [intOf];omega
   ·have h7':g.trunks < 7:=by omega
    have H7:=Lib.hid h7
    clear h7 ht
    by_cases hb1:(qF ⟨lim,gr,hr,gs,some ⟨b,o,none⟩,gc⟩ h k).1=-1
    ·have e:=HTK.out k g HGK.out H7.out (.inl hb1)
     have HE:=Lib.hid e
     rw [hb1]
     clear e c0 c2 hb1
     go_quiet (fail)
     go_wp2
     go_roundw
     case rel=>exact ⟨k+1,rfl,by omega,by rw [HE.out],below_drewN hBr _⟩
     case measure=>simp [intOf];omega
    ·obtain ⟨j,gb,hj,e1,hgb,h7b,e2,_⟩:=(HP.out k hk).some hb1
     have hmb:=List.mem_of_getElem? hgb
     have hjl:j < gs.length:=by omega
     obtain ⟨d0,d1,d2⟩:=HC.out j gb hgb
     have d0:=qb _ hBr' d0
     have d1:=qb _ hBr' d1
     have d2:=qb _ hBr' d2
     have hsb:=fun X (hX:Below wr.heap.size wr X)=>HSV.out gb hmb h7b X (bcl hBr' hX)
     have hsg:=fun X (hX:Below wr.heap.size wr X)=>HSV.out g HM.out H7.out X (bcl hBr' hX)
     have hfb:=HGF.out j gb hgb h7b
     have hfg:=HGF.out k g HGK.out H7.out
     have HTKK:=Lib.hid (HTK.out k g HGK.out H7.out)
     have HHOO:=Lib.hid (HHO.out k g HGK.out H7.out)
     rw [e1]
     rw [e2] at HTKK HHOO
     generalize hX:qo gb h=X at *
     generalize hY:qo g h=Y at *
     clear hX hY
     obtain ⟨X1,X2⟩:=X
     obtain ⟨Y1,Y2⟩:=Y
     have hle:=fun W=>Less_any (X1,X2) (Y1,Y2) W hfb.2.1 (by show 0 < X2;have:=hfb.2.2.2.1;simp only at this;omega) hfg.2.1 (by show 0 < Y2;have:=hfg.2.2.2.1;simp only at this;omega) hfb.2.2.1 hfb.2.2.2.2 hfg.2.2.1 hfg.2.2.2.2
     simp only [gv,fv] at hsb hsg hle
     have HSB:=Lib.hid hsb
     have HSGG:=Lib.hid hsg
     have hjn:¬ ((j:Int) < 0):=by omega
     have i1:(j:Int) < (gs.length:Int):=by omega
     have i2:(0:Int)≤(j:Int):=Int.natCast_nonneg j
     have hS:R7 wr ⟨z,4,none⟩ ⟨b,o+k * 3,none⟩ ⟨b,o+k * 3+1,none⟩ ⟨b,o+k * 3+2,none⟩ ⟨b,o+j * 3,none⟩ ⟨b,o+j * 3+1,none⟩ ⟨b,o+j * 3+2,none⟩ (.slice (some ⟨b,o,none⟩) gs.length gc) (.string g.name) (.int .i64 g.trunks) (.slice g.ta g.traffic.length g.tc) (.string gb.name) (.int .i64 gb.trunks) (.slice gb.ta gb.traffic.length gb.tc) wr:=⟨k4',c0,c1,c2,d0,d1,d2,Below.refl _ _⟩
     have HE1:=Lib.hid e1
     clear hsb hsg hfb hfg e1 e2 hb1 h7b hgb hmb c0 c1 c2 d0 d1 d2 k4'
     go_cut [41] from 14 to 41 (fun s wx=>s=.bool (above (Y1,Y2) (X1,X2))∧Below wr.heap.size wr wx)
     case first =>
      as_aux_lemma =>
       clear k4 hBr hBr'
       go_region_held3 (R7 wr ⟨z,4,none⟩ ⟨b,o+k * 3,none⟩ ⟨b,o+k * 3+1,none⟩ ⟨b,o+k * 3+2,none⟩ ⟨b,o+j * 3,none⟩ ⟨b,o+j * 3+1,none⟩ ⟨b,o+j * 3+2,none⟩ (.slice (some ⟨b,o,none⟩) gs.length gc) (.string g.name) (.int .i64 g.trunks) (.slice g.ta g.traffic.length g.tc) (.string gb.name) (.int .i64 gb.trunks) (.slice gb.ta gb.traffic.length gb.tc)) (first | exact R7.drew hS | exact hX) (first | (go_at_call 80;(with_reducible refine (HSB.out _ (R7.bel (by with_reducible assumption))).mono ?_);rintro e wy ⟨rfl,hB⟩;have hX:=R7.call (by with_reducible assumption) hB) | (go_at_call 80;(with_reducible refine (HSGG.out _ (R7.bel (by with_reducible assumption))).mono ?_);rintro e wy ⟨rfl,hB⟩;have hX:=R7.call (by with_reducible assumption) hB) | (go_at_call 49;(with_reducible refine (hle _).mono ?_);rintro e wy ⟨rfl,hB⟩;have hX:=R7.call (by with_reducible assumption) hB))
       all_goals (rename_i hH;go_wp2_with fail;go_meet;exact ⟨rfl,R7.bel hX⟩)
     case rest =>
     obtain ⟨rfl,hB⟩:=hcut
     have hBk:=bcl hBr hB
     clear hS hle HSB HSGG
     cases hab:above (Y1,Y2) (X1,X2) with
     | true =>
       have e:=HTKK.out (.inr hab)
       have HE:=Lib.hid e
       clear e hab
       go_wp2
       go_roundw
       case rel=>exact ⟨k+1,rfl,by omega,by rw [HE.out],hBk⟩
       case measure=>simp [intOf];omega
     | false =>
       have e:=HHOO.out (by rw [HE1.out,hab];rintro (e | e);omega;cases e)
       have HE:=Lib.hid e
       clear e hab
       go_wp2
       go_roundw
       case rel=>exact ⟨k+1,rfl,by omega,by rw [HE.out,HE1.out],hBk⟩
       case measure=>simp [intOf];omega
  ·obtain rfl:k=gs.length:=by omega
   go_wp2
   go_ret
   exact ⟨rfl,bcl HBW.out hBr⟩
theorem bestA_no {B:Bk} {n:Int} (h:jY B n B.hours≠0):Zf B n=.tuple #[.int .i64 0,fv (0,0),.int .i64 (jY B n B.hours)]:=by
 unfold jY at *
 unfold Zf
 by_cases hc:checkN B=0
 ·rw [if_pos hc] at *
  rw [yn hc,if_pos hc]
  cases hb:btw n 0 (B.hours - 1) with
  | true=>rw [hb] at h;exact absurd rfl h
  | false=>rfl
 ·rw [if_neg hc,if_neg hc]
theorem Jl {B:Bk} {n m:Int} (h:jY B n m=0):checkN B=0∧0≤n∧n≤m - 1:=by
 unfold jY at h
 by_cases hc:checkN B=0
 ·rw [if_pos hc] at h
  cases hb:btw n 0 (m - 1) with
  | true=>exact ⟨hc,zq.1 hb⟩
  | false=>rw [hb] at h;cases h
 ·rw [if_neg hc] at h
  exact absurd h hc
set_option maxHeartbeats 4000000 in
set_option maxRecDepth 100000 in
theorem qgo (B:Bk) (n:Int) (w:World) (hb:BookAt w B):Calls qg 25 #[bv B,.int .i64 n] w fun e w'=>e=.returned (Zf B n)∧Below w.heap.size w w':=by
 have hah:=fun W (hB:Below w.heap.size w W)=>Yu B n W (hb.keep hB)
 by_cases h0:jY B n B.hours=0
 ·obtain ⟨hc,hn0,hn1⟩:=Jl h0
  have hV:=qB hc
  obtain ⟨h,rfl⟩:=Int.eq_ofNat_of_zero_le hn0
  have hh:(h:Int) < B.hours:=by omega
  have hbo:=fun W (hB:Below w.heap.size w W)=>XF B h W (hb.keep hB) hV hh
  have hP:=Jn hV hh B.gs.length (Nat.le_refl _)
  have hR:Zf B (h:Int)=.tuple #[.int .i64 (qF B h B.gs.length).1,fv (qF B h B.gs.length).2,.int .i64 0]:=by
   unfold Zf
   rw [if_pos hc,yn hc,if_pos (zq.2 ⟨by omega,by omega⟩),Int.toNat_natCast]
  rw [hR]
  rw [h0] at hah
  obtain ⟨b,o,hga,hcs⟩:=hb.row hV.len1
  have HC:=Lib.hid hcs
  have HSV:=Lib.hid fun (g:Grp) (hg:g∈B.gs) (h7:g.trunks≠7) W (hB:Below w.heap.size w W)=>XR hV hh hg h7 W ((hb.traf g hg).keep hB) (hb.small.2 g hg).1
  have HP:=Lib.hid hP
  have hl4:=hV.len4
  clear hcs hP hR hV hc hn0 hn1 hh hb h0
  obtain ⟨lim,gr,hr,gs,ga,gc⟩:=B
  simp only [bv] at *
  subst hga
  generalize qF ⟨lim,gr,hr,gs,some ⟨b,o,none⟩,gc⟩ h gs.length=r at *
  obtain ⟨k,x1,x2⟩:=r
  go_enter s25,ntmps25
  go_upto_region 1 with fail
  obtain ⟨W,hW⟩:∃W,(w.alloc (.cells #[.int .i64 lim.1,.int .i64 lim.2,.int .i64 gr,.int .i64 hr,.slice (some ⟨b,o,none⟩) gs.length gc] 26)).alloc (.cells #[.int .i64 0,.int .i64 0] 23)=W:=⟨_,rfl⟩
  have hF:Five W w.heap.size (.int .i64 lim.1) (.int .i64 lim.2) (.int .i64 gr) (.int .i64 hr) (.slice (some ⟨b,o,none⟩) gs.length gc):=by subst hW;exact ⟨⟨by go_cell,by go_cell,by go_cell,by go_cell,by go_cell⟩,⟨by go_cell,by go_cell,by go_cell,by go_cell,by go_cell⟩⟩
  have r0:W.cell? ⟨w.heap.size+1,0,none⟩=some (.int .i64 0):=by subst hW;go_cell
  have r1:W.cell? ⟨w.heap.size+1,1,none⟩=some (.int .i64 0):=by subst hW;go_cell
  have f0:W.frozen? ⟨w.heap.size+1,0,none⟩=false:=by subst hW;go_cell
  have f1:W.frozen? ⟨w.heap.size+1,1,none⟩=false:=by subst hW;go_cell
  have hBW:Below w.heap.size w W:=by subst hW;go_grown
  rw [hW]
  clear hW
  have HF:=Lib.hid hF
  obtain ⟨⟨q0,q1,q2,q3,q4⟩,_⟩:=hF
  have hzr:w.heap.size≤w.heap.size+1:=Nat.le_succ _
  generalize w.heap.size+1=zr at *
  go_upto_region 5 with (first | (go_at_call 78;(with_reducible refine (hah _ hBW).mono ?_);rintro e w1 ⟨rfl,hB⟩;replace hBW:=bcl hBW hB;replace HF:=Lib.hid (HF.out.keep hB);replace f0:=qf _ hB r0 f0;replace f1:=qf _ hB r1 f1;replace r0:=qb _ hB r0;replace r1:=qb _ hB r1;clear q0 q1 q2 q3 q4 hB;obtain ⟨⟨q0,q1,q2,q3,q4⟩,_⟩:=id HF.out) | (go_at_call 79;(with_reducible refine (hbo _ hBW).mono ?_);rintro e w2 ⟨rfl,hB⟩;replace hBW:=bcl hBW hB;replace HF:=Lib.hid (HF.out.keep hB);replace f0:=qf _ hB r0 f0;replace f1:=qf _ hB r1 f1;replace r0:=qb _ hB r0;replace r1:=qb _ hB r1;clear q0 q1 q2 q3 q4 hB;obtain ⟨⟨q0,q1,q2,q3,q4⟩,_⟩:=id HF.out))
  clear hah hbo
  by_cases hk:k=-1
  ·have hx:=(HP.out.none hk).1
   simp only [Prod.mk.injEq] at hx
   obtain ⟨rfl,rfl⟩:=hx
   subst hk
   go_wp2
   have hp:=Za (.int .i64 0) (.int .i64 1) r0 r1
   exact xg results25 rfl rfl rfl hp.1 hp.2 ⟨rfl,(hBW.setCell hzr _).setCell hzr _⟩
  ·obtain ⟨j,g,hj,e1,hg,h7,e2,_⟩:=HP.out.some hk
   simp only at e1 e2 hj
   subst e1
   obtain ⟨c0,c1,c2⟩:=HC.out j g hg
   have c0:=qb _ hBW c0
   have c1:=qb _ hBW c1
   have c2:=qb _ hBW c2
   have hsv:=HSV.out g (List.mem_of_getElem? hg) h7 _ hBW
   rw [← e2] at hsv
   simp only [gv,fv] at hsv
   have hjn:¬ ((j:Int) < 0):=by omega
   have i1:(j:Int) < (gs.length:Int):=by omega
   have i2:(0:Int)≤(j:Int):=Int.natCast_nonneg j
   clear hk e2 h7 hg
   go_wp2_with (go_at_call 80;(with_reducible refine hsv.mono ?_);rintro e w3 ⟨rfl,hB⟩;replace hBW:=bcl hBW hB;replace f0:=qf _ hB r0 f0;replace f1:=qf _ hB r1 f1;replace r0:=qb _ hB r0;replace r1:=qb _ hB r1)
   have hp:=Za (.int .i64 x1) (.int .i64 x2) r0 r1
   exact xg results25 rfl rfl rfl hp.1 hp.2 ⟨rfl,(hBW.setCell hzr _).setCell hzr _⟩
 ·have hR:=bestA_no h0
  rw [hR]
  have hb0:(jY B n B.hours != 0)=true:=bne_iff_ne.2 h0
  generalize jY B n B.hours=a at *
  obtain ⟨lim,gr,hr,gs,ga,gc⟩:=B
  simp only [bv] at *
  clear hb hR h0
  go_enter s25,ntmps25
  go_upto_region 2 with (go_at_call 78;(with_reducible refine (hah _ (by go_grown)).mono ?_);rintro e w1 ⟨rfl,hB1⟩;(first | (replace hB:=bcl (by with_reducible assumption) hB1) | (replace hB:=bcl (by go_grown) hB1) | (have hB:=hB1));(try clear hc hg hz);obtain ⟨hc,hg⟩:=qp hB;have hz:=hB.size;clear hB1;(try simp at hz);(try have hlt0:w.heap.size < w1.heap.size:=by omega))
  have r0:w1.cell? ⟨w.heap.size+1,0,none⟩=some (.int .i64 0):=by go_cell
  have r1:w1.cell? ⟨w.heap.size+1,1,none⟩=some (.int .i64 0):=by go_cell
  have f0:w1.frozen? ⟨w.heap.size+1,0,none⟩=false:=by go_cell
  have f1:w1.frozen? ⟨w.heap.size+1,1,none⟩=false:=by go_cell
  have hBW:Below w.heap.size w w1:=bcl (w:=w) (by go_grown) hB
  have hzr:w.heap.size≤w.heap.size+1:=Nat.le_succ _
  clear hc hg hB hz
  generalize w.heap.size+1=zr at *
  go_wp2
  have hp:=Za (.int .i64 0) (.int .i64 0) r0 r1
  exact xg results25 rfl rfl rfl hp.1 hp.2 ⟨rfl,(hBW.setCell hzr _).setCell hzr _⟩
theorem sumV_no {B:Bk} {n:Int} (h:jY B n B.hours≠0):qdl B n=.tuple #[.int .i64 0,.int .i64 (jY B n B.hours)]:=by
 unfold jY at *
 unfold qdl
 by_cases hc:checkN B=0
 ·rw [if_pos hc] at *
  rw [yn hc,if_pos hc]
  cases hb:btw n 0 (B.hours - 1) with
  | true=>rw [hb] at h;exact absurd rfl h
  | false=>rfl
 ·rw [if_neg hc,if_neg hc]
set_option maxHeartbeats 4000000 in
set_option maxRecDepth 100000 in
theorem rSum_any (B:Bk) (n:Int) (w:World) (hb:BookAt w B):Calls qg 29 #[bv B,.int .i64 n] w fun e w'=>e=.returned (qdl B n)∧Below w.heap.size w w':=by
 have hah:=fun W (hB:Below w.heap.size w W)=>Yu B n W (hb.keep hB)
 by_cases h0:jY B n B.hours=0
 ·obtain ⟨hc,hn0,hn1⟩:=Jl h0
  have hV:=qB hc
  obtain ⟨h,rfl⟩:=Int.eq_ofNat_of_zero_le hn0
  have hh:(h:Int) < B.hours:=by omega
  have hR:qdl B (h:Int)=.tuple #[.int .i64 (Jd B h B.gs.length),.int .i64 0]:=by
   unfold qdl
   rw [if_pos hc,yn hc,if_pos (zq.2 ⟨by omega,by omega⟩),Int.toNat_natCast]
  rw [hR]
  rw [h0] at hah
  obtain ⟨b,o,hga,hcs⟩:=hb.row hV.len1
  have HC:=Lib.hid hcs
  have HSM:=Lib.hid (fun i=>Je hV hh (k:=i))
  have HSS:=Lib.hid (fun (i:Nat) (x:Grp) (hx:B.gs[i]? = some x)=>Xn (h:=h) hx)
  have HGH:=Lib.hid (fun (x:Grp) (hx:x∈B.gs)=>Yy hV hh hx)
  have hs00:Jd B h 0=0:=by simp [Jd]
  have HTR:=Lib.hid hb.traf
  have hl4:=hV.len4
  clear hcs hR hV hc hn0 hn1 hh hb h0
  obtain ⟨lim,gr,hr,gs,ga,gc⟩:=B
  simp only [bv] at *
  subst hga
  go_enter s29,ntmps29
  go_upto_region 5 with (go_at_call 78;(with_reducible refine (hah _ (by go_grown)).mono ?_);rintro e w1 ⟨rfl,hB1⟩;(first | (replace hB:=bcl (by with_reducible assumption) hB1) | (replace hB:=bcl (by go_grown) hB1) | (have hB:=hB1));(try clear hc hg hz);obtain ⟨hc,hg⟩:=qp hB;have hz:=hB.size;clear hB1;(try simp at hz);(try have hlt0:w.heap.size < w1.heap.size:=by omega))
  have k4:w1.cell? ⟨w.heap.size,4,none⟩=some (.slice (some ⟨b,o,none⟩) gs.length gc):=by go_cell
  have hBW:Below w.heap.size w w1:=bcl (w:=w) (by go_grown) hB
  clear hc hg hB hz hah
  have HBW:=Lib.hid hBW
  clear hBW
  generalize w.heap.size=z at k4 ⊢
  go_wp2
  go_loopw [7,8] (fun s i wr=>∃k:Nat,i=.int .i64 k∧k≤gs.length∧s=.int .i64 (Jd ⟨lim,gr,hr,gs,some ⟨b,o,none⟩,gc⟩ h k)∧Below w1.heap.size w1 wr) (fun _ i _=>gs.length - (intOf i).toNat)
  case atStart=>exact ⟨0,rfl,Nat.zero_le _,by rw [hs00],.refl _ _⟩
  case round =>
   obtain ⟨j,rfl,hj,rfl,hBr⟩:=hrel
   have k4':=qb _ hBr k4
   by_cases hlt2:j < gs.length
   ·obtain ⟨gj,hgj⟩:∃gj,gs[j]? = some gj:=⟨gs[j],List.getElem?_eq_getElem hlt2⟩
    have hmj:=List.mem_of_getElem? hgj
    obtain ⟨hsj0,hsj1⟩:=HSM.out j hj
    obtain ⟨t,d,m,hx,ht12,hd4,hm,hm7,eh3⟩:=HGH.out gj hmj
    have htl:=(List.getElem?_eq_some_iff.1 hx).1
    obtain ⟨xb,xq,etx,hpx⟩:=HTR.out gj hmj (by omega)
    obtain ⟨p0,p1⟩:=hpx h _ hx
    obtain ⟨_,t1,t2⟩:=HC.out j gj hgj
    rw [hm] at t1
    rw [etx] at t2
    have hBr':=bcl HBW.out hBr
    have p0:=qb _ hBr' p0
    have p1:=qb _ hBr' p1
    have t1:=qb _ hBr' t1
    have t2:=qb _ hBr' t2
    simp only at p0 p1
    have hS:RN wr ⟨z,4,none⟩ ⟨z,4,none⟩ ⟨b,o+j * 3+1,none⟩ ⟨b,o+j * 3+2,none⟩ ⟨xb,xq+h * 2,none⟩ ⟨xb,xq+h * 2+1,none⟩ (.slice (some ⟨b,o,none⟩) gs.length gc) (.slice (some ⟨b,o,none⟩) gs.length gc) (.int .i64 m) (.slice (some ⟨xb,xq,none⟩) gj.traffic.length gj.tc) (.int .i64 t) (.int .i64 d) wr:=⟨k4',k4',t1,t2,p0,p1,Below.refl _ _⟩
    have l1:z < wr.heap.size:=lt_of_cell k4'
    have l2:b < wr.heap.size:=lt_of_cell t1
    have l3:xb < wr.heap.size:=lt_of_cell p0
    have hlo:=fun W=>Zy t d m ht12 hd4 hm7 W
    rw [← eh3] at hlo
    obtain ⟨_,hk2,_,_⟩:=tot_out ht12 hd4 hm7
    rw [← eh3] at hk2
    have hsn:=HSS.out j gj hgj
    generalize Jd ⟨lim,gr,hr,gs,some ⟨b,o,none⟩,gc⟩ h j=s at *
    generalize yA gj h 3=r at *
    obtain ⟨r1,r2⟩:=r
    unfold okS at hk2
    simp only [fv] at hlo hsn hk2
    obtain ⟨k1,k2,k3,k5⟩:=hk2
    have j1:(j:Int) < (gs.length:Int):=by omega
    have j2:(0:Int)≤(j:Int):=Int.natCast_nonneg j
    have j3:(h:Int) < (gj.traffic.length:Int):=by omega
    have j4:(0:Int)≤(h:Int):=Int.natCast_nonneg h
    have hq0:=Int.ediv_nonneg (show 0≤1000 * r1 by omega) (show 0≤r2 by omega)
    have hq1:=Int.ediv_le_self r2 (show 0≤1000 * r1 by omega)
    have hrb:(r2 == 0)=false:=by rw [beq_eq_false_iff_ne];omega
    have HSN:=Lib.hid hsn
    clear hsn hx hgj hmj etx hpx p0 p1 t1 t2 k4'
    go_upto_region 8 with fail
    go_cut [9] from 23 to 38 (fun p wx=>∃y,p=.pointer (some ⟨y,0,none⟩)∧wx.cell? ⟨y,0,none⟩=some (.int .i64 r1)∧wx.cell? ⟨y,1,none⟩=some (.int .i64 r2)∧Below wr.heap.size wr wx)
    case first =>
     as_aux_lemma =>
      clear k4 hBr hBr'
      go_region_held3 (RN wr ⟨z,4,none⟩ ⟨z,4,none⟩ ⟨b,o+j * 3+1,none⟩ ⟨b,o+j * 3+2,none⟩ ⟨xb,xq+h * 2,none⟩ ⟨xb,xq+h * 2+1,none⟩ (.slice (some ⟨b,o,none⟩) gs.length gc) (.slice (some ⟨b,o,none⟩) gs.length gc) (.int .i64 m) (.slice (some ⟨xb,xq,none⟩) gj.traffic.length gj.tc) (.int .i64 t) (.int .i64 d)) (first | with_reducible exact RN.drew hS | with_reducible exact hX | with_reducible exact RN.alloc hX _ | with_reducible exact (RN.alloc hS _).drew | with_reducible exact RN.set (RN.set hX (Nat.le_refl _) l1 l1 l2 l2 l3 l3 _) (Nat.le_refl _) l1 l1 l2 l2 l3 l3 _) (first | (go_at_call 84;(with_reducible refine (hlo _).mono ?_);rintro e wy ⟨rfl,hB⟩;have hX:=RN.call (by assumption) hB;(try (have c0:wy.cell? ⟨wr.heap.size,0,none⟩=some (.int .i64 0):=qb _ hB (qM wr #[.int .i64 0,.int .i64 0] 23 0 (by decide));have c1:wy.cell? ⟨wr.heap.size,1,none⟩=some (.int .i64 0):=qb _ hB (qM wr #[.int .i64 0,.int .i64 0] 23 1 (by decide));have y0:wy.frozen? ⟨wr.heap.size,0,none⟩=false:=qf _ hB (qM wr #[.int .i64 0,.int .i64 0] 23 0 (by decide)) (Qy wr #[.int .i64 0,.int .i64 0] 23 0 (by decide));have y1:wy.frozen? ⟨wr.heap.size,1,none⟩=false:=qf _ hB (qM wr #[.int .i64 0,.int .i64 0] 23 1 (by decide)) (Qy wr #[.int .i64 0,.int .i64 0] 23 1 (by decide))))))
      all_goals (go_wp2_with fail;go_meet;first | exact ⟨_,rfl,qM wy #[.int .i64 r1,.int .i64 r2] 23 0 (by simp),qM wy #[.int .i64 r1,.int .i64 r2] 23 1 (by simp),(RN.alloc hX _).bel⟩ | exact ⟨_,rfl,(Za _ _ c0 c1).1,(Za _ _ c0 c1).2,(RN.set (RN.set hX (Nat.le_refl _) l1 l1 l2 l2 l3 l3 _) (Nat.le_refl _) l1 l1 l2 l2 l3 l3 _).bel⟩)
    case rest =>
    obtain ⟨y,rfl,z0,z1,hB⟩:=hcut
    have hBk:=bcl hBr hB
    clear hS hlo
    go_wp2
    go_roundw
    case rel=>exact ⟨j+1,rfl,by omega,by rw [HSN.out],hBk⟩
    case measure=>simp [intOf];omega
   ·obtain rfl:j=gs.length:=by omega
    go_wp2
    go_ret2
    exact ⟨rfl,bcl HBW.out hBr⟩
 ·rw [sumV_no h0]
  have hb0:(jY B n B.hours != 0)=true:=bne_iff_ne.2 h0
  generalize jY B n B.hours=a at *
  obtain ⟨lim,gr,hr,gs,ga,gc⟩:=B
  simp only [bv] at *
  clear hb h0
  go_enter s29,ntmps29
  go_wp2_with (go_at_call 78;(with_reducible refine (hah _ (by go_grown)).mono ?_);rintro e w1 ⟨rfl,hB1⟩;(first | (replace hB:=bcl (by with_reducible assumption) hB1) | (replace hB:=bcl (by go_grown) hB1) | (have hB:=hB1));(try clear hc hg hz);obtain ⟨hc,hg⟩:=qp hB;have hz:=hB.size;clear hB1;(try simp at hz);(try have hlt0:w.heap.size < w1.heap.size:=by omega))
  go_ret2
  exact ⟨rfl,bcl (w:=w) (by go_grown) hB⟩
theorem qbw (B:Bk) (n t:Int):zX B n t=if jY B n B.gs.length=0 then (if 0≤t∧t≤7 then 0 else 1) else jY B n B.gs.length:=by
 unfold zX jY
 by_cases hc:checkN B=0
 ·rw [if_pos hc,if_pos hc]
  cases hb:btw n 0 ((B.gs.length:Int) - 1) with
  | true=>rfl
  | false=>rfl
 ·rw [if_neg hc,if_neg hc,if_neg hc]
theorem jk {W:World} {z:Nat} {p:Addr} {v v0 v1 v2 v3 v4:Value} (h:W.cell? p=some v) (hne:z≠p.block):(set5 W z v0 v1 v2 v3 v4).cell? p=some v:=by
 have n:∀i,(⟨z,i,none⟩:Addr)≠p:=fun i e=>hne (by rw [← e])
 exact qc (n 4) (qc (n 3) (qc (n 2) (qc (n 1) (qc (n 0) h))))
theorem qeM {w W:World} {B:Bk} {k g gc z:Nat} {t x:Int} {v0 v1 v2 v3 v4:Value} (hb:BookAt w B) (hWB:BookAt W { B with gs:=jG B.gs k t,ga:=some ⟨g,0,none⟩,gc:=gc }) (hB:Below w.heap.size w W) (hz:w.heap.size≤z) (hc:W.cell? ⟨z,0,none⟩=some (.int .i64 x)) :
 BookAt (set5 W z v0 v1 v2 v3 v4) { B with gs:=jG B.gs k t,ga:=some ⟨g,0,none⟩,gc:=gc }:=by
 refine ⟨fun hl=>?_,fun y hy hl=>?_,hWB.small,hWB.cap⟩
 ·obtain ⟨b',o',e,hcs⟩:=hWB.row hl
  simp only [Option.some.injEq,Addr.mk.injEq] at e
  obtain ⟨rfl,rfl,_⟩:=e
  have hne:z≠g:=fun e=>by
   subst e
   have hl':0 < (jG B.gs k t).length:=hl
   have:=(hcs 0 _ (List.getElem?_eq_getElem hl')).1
   rw [hc] at this
   cases this
  exact ⟨g,0,rfl,fun i y hy=>let ⟨a,b,c⟩:=hcs i y hy;⟨jk a hne,jk b hne,jk c hne⟩⟩
 ·obtain ⟨i,hi',rfl⟩:=List.getElem_of_mem hy
  obtain ⟨v,hv,hvv⟩:=jO (List.getElem?_eq_getElem hi')
  have hT:=(hb.traf v (List.mem_of_getElem? hv)).keep (Below.set5 hB (b:=z) (v0:=v0) (v1:=v1) (v2:=v2) (v3:=v3) (v4:=v4) hz)
  rcases hvv with ⟨e,_⟩ | ⟨_,e⟩
  ·rw [e] at hl ⊢;exact hT hl
  ·rw [e] at hl ⊢;exact hT hl
def JM (B:Bk) (n t:Int) (e:Ending) (W:World):Prop :=
 if zX B n t=0 then ∃g gc,e=.returned (.tuple #[.agg #[.int .i64 B.lim.1,.int .i64 B.lim.2,.int .i64 B.growth,.int .i64 B.hours,.slice (some ⟨g,0,none⟩) B.gs.length gc],.int .i64 0])∧BookAt W { B with gs:=jG B.gs n.toNat t,ga:=some ⟨g,0,none⟩,gc:=gc } else e=.returned (.tuple #[bz,.int .i64 (zX B n t)])
set_option maxHeartbeats 4000000 in
set_option maxRecDepth 100000 in
theorem qbV (B:Bk) (n t:Int) (w:World) (hb:BookAt w B):Calls qg 31 #[bv B,.int .i64 n,.int .i64 t] w fun e w'=>JM B n t e w'∧Below w.heap.size w w':=by
 have hah:=fun W (hB:Below w.heap.size w W)=>askG_any B n W (hb.keep hB)
 unfold JM
 rw [qbw]
 by_cases h0:jY B n B.gs.length=0
 ·rw [if_pos h0]
  rw [h0] at hah
  obtain ⟨hc,hn0,hn1⟩:=Jl h0
  obtain ⟨k,rfl⟩:=Int.eq_ofNat_of_zero_le hn0
  have hk:k < B.gs.length:=by omega
  by_cases ht:0≤t∧t≤7
  ·rw [if_pos ht]
   simp only [if_pos (rfl:(0:Int)=0),Int.toNat_natCast]
   have hit:=fun W=>QW t W ht
   have hwi:=fun W (hB:Below w.heap.size w W)=>qcy B k t W (hb.keep hB) hk
   unfold WithP at hwi
   have HB:=Lib.hid hb
   clear h0 hc hn0 hn1 hk ht hb
   obtain ⟨lim,gr,hr,gs,ga,gc⟩:=B
   simp only [bv] at *
   go_enter s31,ntmps31
   go_upto_region 2 with (go_at_call 48;(with_reducible refine (hah _ (by go_grown)).mono ?_);rintro e w1 ⟨rfl,hB1⟩;(first | (replace hB:=bcl (by with_reducible assumption) hB1) | (replace hB:=bcl (by go_grown) hB1) | (have hB:=hB1));(try clear hc hg hz);obtain ⟨hc,hg⟩:=qp hB;have hz:=hB.size;clear hB1;(try simp at hz);(try have hlt0:w.heap.size < w1.heap.size:=by omega))
   have hF:Five w1 w.heap.size (.int .i64 lim.1) (.int .i64 lim.2) (.int .i64 gr) (.int .i64 hr) (.slice ga gs.length gc):=⟨⟨by go_cell,by go_cell,by go_cell,by go_cell,by go_cell⟩,⟨by go_cell,by go_cell,by go_cell,by go_cell,by go_cell⟩⟩
   have hF6:Five w1 (w.heap.size+1) (.int .i64 0) (.int .i64 0) (.int .i64 0) (.int .i64 0) (.slice none 0 0):=⟨⟨by go_cell,by go_cell,by go_cell,by go_cell,by go_cell⟩,⟨by go_cell,by go_cell,by go_cell,by go_cell,by go_cell⟩⟩
   have hBW:Below w.heap.size w w1:=bcl (w:=w) (by go_grown) hB
   clear hc hg hB hz hah
   have hzr:w.heap.size≤w.heap.size+1:=Nat.le_succ _
   have HZ:=Lib.hid (show w.heap.size+1 < w1.heap.size from lt_of_cell hF6.c.1)
   have HF6:=Lib.hid hF6
   obtain ⟨⟨q0,q1,q2,q3,q4⟩,_⟩:=hF
   clear hF6
   generalize w.heap.size+1=zr at *
   go_wp2_with (first | (go_at_call 54;(with_reducible refine (hit _).mono ?_);rintro e w1 ⟨rfl,rfl⟩) | (go_at_call 82;(with_reducible refine (hwi _ hBW).mono ?_);rintro e w2 ⟨⟨g,gc2,rfl,_,hWB⟩,hB⟩;have hF7:=HF6.out.keep hB;obtain ⟨⟨c0,c1,c2,c3,c4⟩,⟨f0,f1,f2,f3,f4⟩⟩:=id hF7))
   refine xO results31 zZ zO rfl rfl c0 c1 c2 c3 c4 ⟨⟨g,gc2,rfl,qeM (B:=⟨lim,gr,hr,gs,ga,gc⟩) HB.out hWB (bcl hBW hB) hzr c0⟩,Below.set5 (bcl hBW hB) hzr⟩
  ·rw [if_neg ht]
   simp only [if_neg (show ¬ (1:Int)=0 by decide)]
   have hit:=fun W=>XT t W ht
   clear h0 hc hn0 hn1 hk ht hb
   obtain ⟨lim,gr,hr,gs,ga,gc⟩:=B
   simp only [bv,bz] at *
   go_enter s31,ntmps31
   go_upto_region 2 with (go_at_call 48;(with_reducible refine (hah _ (by go_grown)).mono ?_);rintro e w1 ⟨rfl,hB1⟩;(first | (replace hB:=bcl (by with_reducible assumption) hB1) | (replace hB:=bcl (by go_grown) hB1) | (have hB:=hB1));(try clear hc hg hz);obtain ⟨hc,hg⟩:=qp hB;have hz:=hB.size;clear hB1;(try simp at hz);(try have hlt0:w.heap.size < w1.heap.size:=by omega))
   have hF6:Five w1 (w.heap.size+1) (.int .i64 0) (.int .i64 0) (.int .i64 0) (.int .i64 0) (.slice none 0 0):=⟨⟨by go_cell,by go_cell,by go_cell,by go_cell,by go_cell⟩,⟨by go_cell,by go_cell,by go_cell,by go_cell,by go_cell⟩⟩
   have hBW:Below w.heap.size w w1:=bcl (w:=w) (by go_grown) hB
   clear hc hg hB hz hah
   have hzr:w.heap.size≤w.heap.size+1:=Nat.le_succ _
   obtain ⟨⟨c0,c1,c2,c3,c4⟩,⟨f0,f1,f2,f3,f4⟩⟩:=id hF6
   clear hF6
   generalize w.heap.size+1=zr at *
   go_wp2_with (go_at_call 54;(with_reducible refine (hit _).mono ?_);rintro e w1 ⟨rfl,rfl⟩)
   exact xO results31 zZ zO rfl rfl c0 c1 c2 c3 c4 ⟨rfl,Below.set5 hBW hzr⟩
 ·rw [if_neg h0]
  simp only [if_neg h0]
  have hb0:(jY B n B.gs.length != 0)=true:=bne_iff_ne.2 h0
  generalize jY B n B.gs.length=a at *
  obtain ⟨lim,gr,hr,gs,ga,gc⟩:=B
  simp only [bv,bz] at *
  clear hb h0
  go_enter s31,ntmps31
  go_upto_region 2 with (go_at_call 48;(with_reducible refine (hah _ (by go_grown)).mono ?_);rintro e w1 ⟨rfl,hB1⟩;(first | (replace hB:=bcl (by with_reducible assumption) hB1) | (replace hB:=bcl (by go_grown) hB1) | (have hB:=hB1));(try clear hc hg hz);obtain ⟨hc,hg⟩:=qp hB;have hz:=hB.size;clear hB1;(try simp at hz);(try have hlt0:w.heap.size < w1.heap.size:=by omega))
  have hF6:Five w1 (w.heap.size+1) (.int .i64 0) (.int .i64 0) (.int .i64 0) (.int .i64 0) (.slice none 0 0):=⟨⟨by go_cell,by go_cell,by go_cell,by go_cell,by go_cell⟩,⟨by go_cell,by go_cell,by go_cell,by go_cell,by go_cell⟩⟩
  have hBW:Below w.heap.size w w1:=bcl (w:=w) (by go_grown) hB
  clear hc hg hB hz hah
  have hzr:w.heap.size≤w.heap.size+1:=Nat.le_succ _
  obtain ⟨⟨c0,c1,c2,c3,c4⟩,⟨f0,f1,f2,f3,f4⟩⟩:=id hF6
  clear hF6
  generalize w.heap.size+1=zr at *
  go_wp2
  exact xO results31 zZ zO rfl rfl c0 c1 c2 c3 c4 ⟨rfl,Below.set5 hBW hzr⟩
end Go.Proofs.Tryz
namespace Go.Proofs.Tryz
open Go Go.Load Go.RowKit Go.Maps
def JN (B:Bk) (n m:Int) (e:Ending) (W:World):Prop :=
 if jY B n B.hours=0 then (if 0≤m∧m≤6 then ∃v,e=.returned (.tuple #[v,.int .i64 0])∧yB W v (Zj m.toNat (qV n.toNat m.toNat B.gs)) else e=.returned (.tuple #[.slice none 0 0,.int .i64 1])) else e=.returned (.tuple #[.slice none 0 0,.int .i64 (jY B n B.hours)])
def QH (h:Nat) (l:List Grp) (j:Nat):List Int:=(List.range j).map fun i=>yO h (jW h l i)
theorem XK (h:Nat) (l:List Grp) (j:Nat):(QH h l j).length=j:=by simp [QH]
theorem qbE (h:Nat) (l:List Grp) (j:Nat):QH h l (j+1)=QH h l j ++ [yO h (jW h l j)]:=by
 unfold QH
 rw [List.range_succ,List.map_append]
 rfl
theorem qbD (h:Nat) (l:List Grp) (N:Nat):QH h l N=Zj N (qV h N l):=by
 refine List.ext_getElem? fun i=>?_
 by_cases hi:i < N
 ·rw [qcO h N l i hi]
  unfold QH
  rw [List.getElem?_map,List.getElem?_range hi]
  rfl
 ·rw [List.getElem?_eq_none (by rw [XK];omega),List.getElem?_eq_none (by rw [qcP N _ (je h N l)];omega)]
theorem qaX (h:Nat) (l:List Grp):∀(j i:Nat) (y:Grp),(jW h l j)[i]? = some y→∃x,l[i]? = some x∧y.traffic=x.traffic∧y.ta=x.ta∧y.name=x.name
 | 0,i,y,hy=>⟨y,hy,rfl,rfl,rfl⟩
 | j+1,i,y,hy=>by
   rw [jW] at hy
   unfold xy at hy
   split at hy
   ·exact qaX h l j i y hy
   ·split at hy
    ·rename_i x hx
     by_cases e:(yO h (jW h l j)).toNat=i
     ·subst e
      have hlt:=(List.getElem?_eq_some_iff.1 hx).1
      rw [List.getElem?_set_self hlt] at hy
      cases hy
      obtain ⟨x',h1,h2,h3,h4⟩:=qaX h l j _ x hx
      exact ⟨x',h1,h2,h3,h4⟩
     ·rw [List.getElem?_set_ne e] at hy
      exact qaX h l j i y hy
    ·exact qaX h l j i y hy
theorem qdk {w W:World} {B:Bk} (hb:BookAt w B) (hB:Below w.heap.size w W) {h j g o gc:Nat} (hl:(jW h B.gs j).length=B.gs.length) (hc:zo W g o (jW h B.gs j)) (hcap:B.gs.length≤gc):BookAt W { B with gs:=jW h B.gs j,ga:=some ⟨g,o,none⟩,gc:=gc }:=by
 have hk:∀y∈jW h B.gs j,∃x∈B.gs,y.traffic=x.traffic∧y.ta=x.ta∧y.name=x.name:=fun y hy=>by
  obtain ⟨i,hi,rfl⟩:=List.getElem_of_mem hy
  obtain ⟨x,hx,e⟩:=qaX h B.gs j i _ (List.getElem?_eq_getElem hi)
  exact ⟨x,List.mem_of_getElem? hx,e⟩
 refine ⟨fun _=>⟨g,o,rfl,hc⟩,fun y hy hl2=>?_,⟨by show (jW h B.gs j).length≤20;rw [hl];exact hb.small.1,fun y hy=>?_⟩,by show (jW h B.gs j).length≤gc;rw [hl];exact hcap⟩
 ·obtain ⟨x,hx,e1,e2,_⟩:=hk y hy
  have:=(hb.traf x hx).keep hB
  unfold yD at this
  rw [e1,e2]
  exact this (by rw [← e1];exact hl2)
 ·obtain ⟨x,hx,e1,_,e3⟩:=hk y hy
  rw [e1,e3]
  exact hb.small.2 x hx
theorem qfX {W:World} {base e size n z:Nat} {v:Value} {xs:List Value} {v0 v1 v2 v3 v4:Value} (h:W.ownsRow base e size v n xs) (hz:z < base):(set5 W z v0 v1 v2 v3 v4).ownsRow base e size v n xs:=by
 have k:v.ownBlock=none∨v.ownBlock≠some z:=by
  cases hv:v.ownBlock with
  | none=>exact .inl rfl
  | some k=>exact .inr (fun e=>by have:=(h.lt k hv).1;cases e;omega)
 exact ((((h.kept Qr k).kept Qr k).kept Qr k).kept Qr k).kept Qr k
set_option maxHeartbeats 4000000 in
set_option maxRecDepth 100000 in
theorem qee (B:Bk) (h N:Nat) (w:World) (hb:BookAt w B) (hc:checkN B=0) (hh:(h:Int) < B.hours) (hN:N≤6):Calls qg 27 #[bv B,.int .i64 h,.int .i64 N] w fun e w'=>(∃v,e=.returned (.tuple #[v,.int .i64 0])∧yB w' v (QH h B.gs N))∧Below w.heap.size w w':=by
 obtain ⟨i0,hi,hz0,hz1,hz2⟩:=info_parts JD
 have hi:=(yS 3).trans hi
 have hah:=fun W (hB:Below w.heap.size w W)=>Yu B (h:Int) W (hb.keep hB)
 have h0:jY B (h:Int) B.hours=0:=by unfold jY;rw [if_pos hc,if_pos (zq.2 ⟨by omega,by omega⟩)]
 rw [h0] at hah
 have hin:=fun W=>yT (N:Int) 0 6 W ⟨by omega,by omega⟩
 have hV:=qB hc
 obtain ⟨b,o,hga,hcs⟩:=hb.row hV.len1
 have HI:=Lib.hid hi
 have HSP:=Lib.hid (fun j=>SprI.all hc hh j)
 have HBK:=Lib.hid hb
 have HHH:=Lib.hid hh
 have HC:=Lib.hid hcs
 have hl4:=hV.len4
 have hl1:=hV.len1
 have hcap:=hb.cap
 clear hcs hV hc h0 hb hi hh
 obtain ⟨lim,gr,hr,gs,ga,gc⟩:=B
 simp only [bv] at *
 subst hga
 go_enter s27,ntmps27
 go_upto_region 7 with (first | (go_at_call 78;(with_reducible refine (hah _ (by go_grown)).mono ?_);rintro e w1 ⟨rfl,hB1⟩;(first | (replace hB:=bcl (by with_reducible assumption) hB1) | (replace hB:=bcl (by go_grown) hB1) | (have hB:=hB1));(try clear hc hg hz);obtain ⟨hc,hg⟩:=qp hB;have hz:=hB.size;clear hB1;(try simp at hz);(try have hlt0:w.heap.size < w1.heap.size:=by omega)) | (go_at_call 51;(with_reducible refine (hin _).mono ?_);rintro e w1 ⟨rfl,rfl⟩))
 have hF:Five w1 w.heap.size (.int .i64 lim.1) (.int .i64 lim.2) (.int .i64 gr) (.int .i64 hr) (.slice (some ⟨b,o,none⟩) gs.length gc):=⟨⟨by go_cell,by go_cell,by go_cell,by go_cell,by go_cell⟩,⟨by go_cell,by go_cell,by go_cell,by go_cell,by go_cell⟩⟩
 have hBW:Below w.heap.size w w1:=bcl (w:=w) (by go_grown) hB
 have hzl:w.heap.size < w1.heap.size:=lt_of_cell hF.c.1
 have hbl:b < w.heap.size:=by
  have hl:0 < gs.length:=by omega
  exact lt_of_cell (HC.out 0 _ (List.getElem?_eq_getElem hl)).1
 clear hc hg hB hz hah
 have HBW:=Lib.hid hBW
 have HF:=Lib.hid hF
 have HBL:=Lib.hid hbl
 have HZL:=Lib.hid hzl
 clear hBW hF hbl hzl
 obtain ⟨z,hz⟩:∃z,z=w.heap.size:=⟨_,rfl⟩
 rw [← hz] at HF HZL HBL ⊢
 have HZ:=Lib.hid hz
 clear hz
 go_wp2
 go_loopw [9,10] (fun s i wr=>∃(j:Nat) (v:Value),v=s∧i=.int .i64 j∧j≤N∧wr.ownsRow w1.heap.size 3 1 v j ((QH h gs j).map (.int .i64))∧w1.heap.size≤wr.heap.size∧∃g' o' gc',zo wr g' o' (jW h gs j)∧gs.length≤gc'∧g'≠z∧(∀vb,v.ownBlock=some vb→g'≠vb)∧g' < wr.heap.size∧Five wr z (.int .i64 lim.1) (.int .i64 lim.2) (.int .i64 gr) (.int .i64 hr) (.slice (some ⟨g',o',none⟩) gs.length gc')∧Below w.heap.size w wr) (fun _ i _=>N - (intOf i).toNat)
 case atStart=>exact ⟨0,_,rfl,rfl,Nat.zero_le _,World.ownsRow_nil _ _ _ _,Nat.le_refl _,b,o,gc,(fun i g hg=>by obtain ⟨c0,c1,c2⟩:=HC.out i g hg;exact ⟨qb _ HBW.out c0,qb _ HBW.out c1,qb _ HBW.out c2⟩),hcap,Nat.ne_of_lt HBL.out,(fun vb e=>by cases e),Nat.lt_trans HBL.out HZL.out,HF.out,HBW.out⟩
 case round =>
  obtain ⟨j,v,rfl,rfl,hj,hown,hsz,g',o',gc',hcs,hgc,hgz,hgv,hgl,hFv,hBr⟩:=hrel
  have el:=(HSP.out j).len
  simp only at el
  have hbk:=qdk (B:=⟨lim,gr,hr,gs,some ⟨b,o,none⟩,gc⟩) HBK.out hBr (h:=h) (j:=j) el hcs hgc
  have HBJ:=Lib.hid hbk
  have HCS:=Lib.hid hcs
  have HFV:=Lib.hid hFv
  have HGV:=Lib.hid hgv
  have HOW:=Lib.hid hown
  have HGL:=Lib.hid hgl
  obtain ⟨⟨q0,q1,q2,q3,q4⟩,_⟩:=id hFv
  clear hbk hcs hFv hgv hown hgl
  by_cases hlt:j < N
  ·have hbo:=fun W (hB:Below wr.heap.size wr W)=>XF _ h W (HBJ.out.keep hB) ((HSP.out j).valid.move (.refl _) _ _) HHH.out
   simp only [bv,el] at hbo
   have hbe:(qF ⟨lim,gr,hr,jW h gs j,some ⟨g',o',none⟩,gc'⟩ h gs.length).1=yO h (jW h gs j):=by
    have:=Jm ⟨lim,gr,hr,jW h gs j,some ⟨g',o',none⟩,gc'⟩ h
    simp only [el] at this
    exact this
   rw [hbe] at hbo
   clear hbe
   have j1:(j:Int) < (N:Int):=by omega
   have j2:(0:Int)≤(j:Int):=Int.natCast_nonneg j
   have hbc:=qam (B:=⟨lim,gr,hr,jW h gs j,some ⟨b,o,none⟩,gc⟩) (HSP.out j).valid HHH.out
   have esp:jW h gs (j+1)=xy (jW h gs j) (yO h (jW h gs j)):=rfl
   have efn:=qbE h gs j
   have HSPN:=Lib.hid esp
   have HFN:=Lib.hid efn
   simp only at hbc
   generalize yO h (jW h gs j)=KB at *
   clear esp efn
   go_upto_region 12 with (first | (go_at_call 79;(with_reducible refine (hbo _ (Below.refl _ _)).mono ?_);rintro e w2 ⟨rfl,hB⟩;have hs2:=hB.size) | (at_builtin;refine wpList_append_own_at _ rfl (.tmp 29) (.tmp 31) 33 rfl w1.heap.size 3 i0 (.int .i64 0) 1 8 ((zl _).trans Tryz.underlying33) HI.out hz0 hz1 hz2 rfl (by decide) _ _ _ rfl ((yJ HOW.out hB).alloc _) ⟨w2.heap.size,0,none⟩ 1 1 [.int .i64 KB] rfl rfl (cell_one_new _ _ _) (ints_oneCell .i64 [KB]) (by unfold maxLen;omega) (by omega) (by simp;omega) ?_;intro v1 w4 hown1 hgrow1 hnil1 hbl1))
   have hBx:=hB.alloc hB.size (.cells #[.int .i64 KB] 3)
   have hlo:∀vb,v.ownBlock=some vb→w1.heap.size≤vb:=fun vb e=>(HOW.out.lt vb e).1
   have hkc:∀(p:Addr) (u:Value),wr.cell? p=some u→(∀vb,v.ownBlock=some vb→p.block≠vb)→w4.cell? p=some u:=fun p u hu hne=>hgrow1.cell (qb _ hBx hu) (fun e=>hne _ e.symm rfl)
   have hkf:∀(p:Addr) (u:Value),wr.cell? p=some u→wr.frozen? p=false→(∀vb,v.ownBlock=some vb→p.block≠vb)→w4.frozen? p=false:=fun p u hu hf hne=>(World.frozen?_of_block (hgrow1.block p.block (lt_of_cell (qb _ hBx hu)) (fun e=>hne _ e.symm rfl))).trans (qf _ hBx hu hf)
   have hzv:∀vb,v.ownBlock=some vb→z≠vb:=fun vb e=>by have:=hlo vb e;have:=HZL.out;omega
   have hFv:Five w4 z (.int .i64 lim.1) (.int .i64 lim.2) (.int .i64 gr) (.int .i64 hr) (.slice (some ⟨g',o',none⟩) gs.length gc'):=by
    obtain ⟨⟨a0,a1,a2,a3,a4⟩,⟨b0,b1,b2,b3,b4⟩⟩:=HFV.out
    exact ⟨⟨hkc _ _ a0 hzv,hkc _ _ a1 hzv,hkc _ _ a2 hzv,hkc _ _ a3 hzv,hkc _ _ a4 hzv⟩,⟨hkf _ _ a0 b0 hzv,hkf _ _ a1 b1 hzv,hkf _ _ a2 b2 hzv,hkf _ _ a3 b3 hzv,hkf _ _ a4 b4 hzv⟩⟩
   have hcs:zo w4 g' o' (jW h gs j):=fun i y hy=>by
    obtain ⟨a,b,c⟩:=HCS.out i y hy
    exact ⟨hkc _ _ a HGV.out,hkc _ _ b HGV.out,hkc _ _ c HGV.out⟩
   have hszx:wr.heap.size < (w2.alloc (.cells #[.int .i64 KB] 3)).heap.size:=by simp;omega
   have hB4:Below w.heap.size w w4:=(bcl hBr hBx).grown hgrow1 (by have:=hBr.size;omega) (fun k e=>by have:=hlo k e;have:=HBW.out.size;omega)
   have hs4:w1.heap.size≤w4.heap.size:=by have:=hgrow1.size;omega
   have hg4:g' < w4.heap.size:=by have:=hgrow1.size;have:=HGL.out;omega
   have hgv1:∀vb,v1.ownBlock=some vb→g'≠vb:=fun vb e=>by
    rcases hbl1 with hx | hx
    ·exact HGV.out vb (hx▸e)
    ·rw [hx] at e
     cases e
     have:=HGL.out
     omega
   have hown2:w4.ownsRow w1.heap.size 3 1 v1 (j+1) ((QH h gs (j+1)).map (.int .i64)):=by
    rw [HFN.out,List.map_append]
    exact hown1
   clear hown1 hgrow1 hnil1 hbl1 hkc hkf hBx hB hbo q0 q1 q2 q3 q4
   have HOW1:=Lib.hid hown2
   have HFV1:=Lib.hid hFv
   have HCS1:=Lib.hid hcs
   have HGV1:=Lib.hid hgv1
   have HB4:=Lib.hid hB4
   have HG4:=Lib.hid hg4
   clear hown2 hcs hgv1 hB4 hzv hlo hg4
   rcases hbc with ⟨rfl,_⟩ | ⟨m,y,rfl,hy,h7,_⟩
   ·clear hFv
    go_wp2
    go_roundw
    case rel=>exact ⟨j+1,v1,rfl,rfl,by omega,HOW1.out,hs4,g',o',gc',by rw [HSPN.out];exact HCS1.out,hgc,hgz,HGV1.out,HG4.out,HFV1.out,HB4.out⟩
    case measure=>simp [intOf];omega
   ·have hml:m < gs.length:=by have:=(List.getElem?_eq_some_iff.1 hy).1;omega
    obtain ⟨_,_,n,_,_,_,hn,hn7,_⟩:=Yy (B:=⟨lim,gr,hr,jW h gs j,some ⟨b,o,none⟩,gc⟩) (HSP.out j).valid HHH.out (List.mem_of_getElem? hy)
    have hbk4:=qdk (B:=⟨lim,gr,hr,gs,some ⟨b,o,none⟩,gc⟩) HBK.out HB4.out (h:=h) (j:=j) el HCS1.out hgc
    have hwi:=fun W (hB:Below w4.heap.size w4 W)=>qcy _ m ((n:Int)+1) W (hbk4.keep hB) (by show m < (jW h gs j).length;omega)
    simp only [bv,WithP,el] at hwi
    have wn:IntKind.i64.wrap ((n:Int)+1)=(n:Int)+1:=by rw [IntKind.wrap_i64];omega
    have m0:(0:Int)≤(m:Int):=Int.natCast_nonneg m
    have m1:(m:Int) < (gs.length:Int):=by omega
    have t1:=(HCS1.out m y hy).2.1
    rw [hn] at t1
    obtain ⟨⟨u0,u1,u2,u3,u4⟩,⟨f0,f1,f2,f3,f4⟩⟩:=hFv
    have hes:jW h gs (j+1)=jG (jW h gs j) m ((n:Int)+1):=by rw [HSPN.out,qcF hy,hn]
    have HES:=Lib.hid hes
    have HWI:=Lib.hid hwi
    clear hes hbk4 hwi hy h7 hn
    have HFD:Hid (Five w4.drew z (.int .i64 lim.1) (.int .i64 lim.2) (.int .i64 gr) (.int .i64 hr) (.slice (some ⟨g',o',none⟩) gs.length gc')):=Lib.hid ⟨HFV1.out.c,HFV1.out.f⟩
    go_upto_region 13 with fail
    go_region_with (go_at_call 82;(with_reducible refine (HWI.out _ (by first | exact Below.refl _ _ | exact (Below.refl _ _).drew | go_grown)).mono ?_);rintro e w6 ⟨⟨g2,gc2,rfl,hg2,hWB⟩,hB⟩;obtain ⟨⟨u0,u1,u2,u3,u4⟩,⟨f0,f1,f2,f3,f4⟩⟩:=(by first | exact HFD.out.keep hB | exact HFV1.out.keep hB:Five w6 z (.int .i64 lim.1) (.int .i64 lim.2) (.int .i64 gr) (.int .i64 hr) (.slice (some ⟨g',o',none⟩) gs.length gc')))
    all_goals
     have hBf:Below w4.heap.size w4 w6:=Below.call (Below.refl _ w4).drew hB (Nat.le_refl _)
     have hg2':w4.heap.size≤g2:=hg2
     have hl2:(jG (jW h gs j) m ((n:Int)+1)).length=gs.length:=by rw [zu];exact el
     obtain ⟨rb,ro,er,hrc⟩:=hWB.row (by show 1≤(jG (jW h gs j) m ((n:Int)+1)).length;omega)
     simp only [Option.some.injEq,Addr.mk.injEq] at er
     obtain ⟨rfl,rfl,_⟩:=er
     have hgz2:z≠g2:=by have:=HZL.out;omega
     have hcap2:gs.length≤gc2:=by have h:=hWB.cap;simp only at h;omega
     have hg2l:g2 < w6.heap.size:=by
      have hl':0 < (jG (jW h gs j) m ((n:Int)+1)).length:=by omega
      exact lt_of_cell (hrc 0 _ (List.getElem?_eq_getElem hl')).1
     have HRC:=Lib.hid hrc
     clear hrc hWB
     go_wp2
     go_roundw
     case rel=>exact ⟨j+1,v1,rfl,rfl,by omega,qfX (yJ HOW1.out hBf) HZL.out,Nat.le_trans hs4 (Nat.le_trans hBf.size (by simp [set5])),g2,0,gc2,(by rw [HES.out];exact fun i y hy=>let ⟨a,b,c⟩:=HRC.out i y hy;⟨jk a hgz2,jk b hgz2,jk c hgz2⟩),hcap2,hgz2.symm,(fun vb e=>by have:=(HOW1.out.lt vb e).2;omega),(by simp only [set5,World.size_setCell];exact hg2l),Five.put _ _ _ _ _ ⟨⟨u0,u1,u2,u3,u4⟩,⟨f0,f1,f2,f3,f4⟩⟩,Below.set5 (Below.call HB4.out hBf (by have:=HB4.out.size;omega)) (by rw [HZ.out];exact Nat.le_refl _)⟩
     case measure=>simp [intOf];omega
  ·obtain rfl:j=N:=by omega
   go_wp2
   go_ret2
   exact ⟨⟨_,rfl,yH (base:=w1.heap.size) (by unfold SliceOf;rw [XK];exact HOW.out)⟩,hBr⟩
set_option maxHeartbeats 4000000 in
set_option maxRecDepth 100000 in
theorem qbY (B:Bk) (n m:Int) (w:World) (hb:BookAt w B):Calls qg 27 #[bv B,.int .i64 n,.int .i64 m] w fun e w'=>JN B n m e w'∧Below w.heap.size w w':=by
 have hah:=fun W (hB:Below w.heap.size w W)=>Yu B n W (hb.keep hB)
 unfold JN
 by_cases h0:jY B n B.hours=0
 ·simp only [if_pos h0]
  by_cases hm:0≤m∧m≤6
  ·simp only [if_pos hm]
   obtain ⟨hc,hn0,hn1⟩:=Jl h0
   obtain ⟨h,rfl⟩:=Int.eq_ofNat_of_zero_le hn0
   obtain ⟨N,rfl⟩:=Int.eq_ofNat_of_zero_le hm.1
   simp only [Int.toNat_natCast,← qbD]
   exact qee B h N w hb hc (by omega) (by omega)
  ·simp only [if_neg hm]
   rw [h0] at hah
   have hin:=fun W=>Yg m 0 6 W hm
   obtain ⟨lim,gr,hr,gs,ga,gc⟩:=B
   simp only [bv] at *
   clear hb h0 hm
   go_enter s27,ntmps27
   go_wp2_with (first | (go_at_call 78;(with_reducible refine (hah _ (by go_grown)).mono ?_);rintro e w1 ⟨rfl,hB1⟩;(first | (replace hB:=bcl (by with_reducible assumption) hB1) | (replace hB:=bcl (by go_grown) hB1) | (have hB:=hB1));(try clear hc hg hz);obtain ⟨hc,hg⟩:=qp hB;have hz:=hB.size;clear hB1;(try simp at hz);(try have hlt0:w.heap.size < w1.heap.size:=by omega)) | (go_at_call 51;(with_reducible refine (hin _).mono ?_);rintro e w1 ⟨rfl,rfl⟩))
   go_ret2
   exact ⟨rfl,bcl (w:=w) (by go_grown) hB⟩
 ·simp only [if_neg h0]
  have hb0:(jY B n B.hours != 0)=true:=bne_iff_ne.2 h0
  generalize jY B n B.hours=a at *
  obtain ⟨lim,gr,hr,gs,ga,gc⟩:=B
  simp only [bv] at *
  clear hb h0
  go_enter s27,ntmps27
  go_wp2_with (go_at_call 78;(with_reducible refine (hah _ (by go_grown)).mono ?_);rintro e w1 ⟨rfl,hB1⟩;(first | (replace hB:=bcl (by with_reducible assumption) hB1) | (replace hB:=bcl (by go_grown) hB1) | (have hB:=hB1));(try clear hc hg hz);obtain ⟨hc,hg⟩:=qp hB;have hz:=hB.size;clear hB1;(try simp at hz);(try have hlt0:w.heap.size < w1.heap.size:=by omega))
  go_ret2
  exact ⟨rfl,bcl (w:=w) (by go_grown) hB⟩
end Go.Proofs.Tryz
section
namespace Go.Proofs.Tryz
open Go Go.Load Go.RowKit
open Go.Proofs.YtnpjncjnmpfgpaaGreatDoor (BookIn)
theorem s5:qg.funcs[5]? = some f5:=by kernel_rfl
theorem qdw (B:Bk) (n:Int):∃k x1 x2 a:Int,Zf B n=.tuple #[.int .i64 k,.agg #[.int .i64 x1,.int .i64 x2],.int .i64 a]:=by
 unfold Zf
 split
 ·split
  ·exact ⟨_,_,_,_,rfl⟩
  ·exact ⟨_,_,_,_,rfl⟩
 ·exact ⟨_,_,_,_,rfl⟩
theorem qgO (B:Bk) (n:Int):∃s a:Int,qdl B n=.tuple #[.int .i64 s,.int .i64 a]:=by
 unfold qdl
 split
 ·split
  ·exact ⟨_,_,rfl⟩
  ·exact ⟨_,_,rfl⟩
 ·exact ⟨_,_,rfl⟩
def spL (B:Bk) (n m:Int):List Int:=if jY B n B.hours=0∧0≤m∧m≤6 then Zj m.toNat (qV n.toNat m.toNat B.gs) else []
def spA (B:Bk) (n m:Int):Int:=if jY B n B.hours=0 then (if 0≤m∧m≤6 then 0 else 1) else jY B n B.hours
theorem Zo (w:World):yB w (.slice none 0 0) []:=⟨none,0,rfl,fun h=>absurd h (by decide)⟩
theorem spL_len (B:Bk) (n m:Int):(spL B n m).length≤100:=by
 unfold spL
 split
 ·rename_i h
  rw [qcP _ _ (je _ _ _)]
  omega
 ·exact Nat.zero_le _
theorem qbZ (B:Bk) (n m:Int) (w:World) (hb:BookAt w B):Calls qg 27 #[bv B,.int .i64 n,.int .i64 m] w fun e w'=>(∃v,e=.returned (.tuple #[v,.int .i64 (spA B n m)])∧yB w' v (spL B n m))∧Below w.heap.size w w' :=
 (qbY B n m w hb).mono fun e w' k=>⟨by
   have k:=k.1
   unfold JN at k
   unfold spA spL
   by_cases h0:jY B n B.hours=0
   ·rw [if_pos h0] at k ⊢
    by_cases hm:0≤m∧m≤6
    ·rw [if_pos hm] at k ⊢
     rw [if_pos ⟨h0,hm⟩]
     exact k
    ·rw [if_neg hm] at k ⊢
     rw [if_neg fun e=>hm e.2]
     exact ⟨_,k,Zo _⟩
   ·rw [if_neg h0] at k ⊢
    rw [if_neg fun e=>h0 e.1]
    exact ⟨_,k,Zo _⟩,k.2⟩
theorem qdt (B:Bk) (n m:Int) (w:World) (hb:BookAt w B) (hG:Globs w):Calls qg 26 #[bv B,.int .i64 n,.int .i64 m] w fun e w'=>(∃v,e=.returned (.tuple #[v,.int .i64 (spA B n m)])∧yB w' v (spL B n m))∧Below w.heap.size w w' :=
 (XE B n m w hb hG).mono fun e w' k=>⟨by
   have k:=k.1
   unfold Qb at k
   unfold spA spL jY
   by_cases hc:checkN B=0
   ·rw [if_pos hc,yn hc] at k
    rw [if_pos hc]
    by_cases hn:btw n 0 (B.hours - 1)=true
    ·rw [if_pos hn] at k
     rw [if_pos hn,if_pos rfl]
     by_cases hm:btw m 0 6=true
     ·rw [if_pos hm] at k
      have hm':=zq.1 hm
      rw [if_pos hm',if_pos ⟨rfl,hm'⟩]
      obtain ⟨v,e1,hS⟩:=k
      exact ⟨v,e1,yH hS⟩
     ·rw [if_neg hm] at k
      have hm':¬ (0≤m∧m≤6):=fun e=>hm (zq.2 e)
      rw [if_neg hm',if_neg fun e=>hm' e.2]
      exact ⟨_,k,Zo _⟩
    ·rw [if_neg hn] at k
     rw [if_neg hn,if_neg (by decide),if_neg fun e=>absurd e.1 (by decide)]
     exact ⟨_,k,Zo _⟩
   ·rw [if_neg hc] at k
    rw [if_neg hc,if_neg hc,if_neg fun e=>hc e.1]
    exact ⟨_,k,Zo _⟩,k.2⟩
def qbh (B:Bk) (n t:Int) (A:Bk):Prop:=(zX B n t=0∧A.lim=B.lim∧A.growth=B.growth∧A.hours=B.hours∧zh (jG B.gs n.toNat t) A.gs)∨(zX B n t≠0∧A=bkZ)
theorem qbx {B:Bk} {n t:Int} (h:zX B n t=0):checkN B=0∧(0≤n∧n≤(B.gs.length:Int) - 1)∧0≤t∧t≤7:=by
 unfold zX at h
 by_cases hc:checkN B=0
 ·rw [if_pos hc] at h
  by_cases hn:btw n 0 ((B.gs.length:Int) - 1)=true
  ·rw [if_pos hn] at h
   by_cases ht:0≤t∧t≤7
   ·exact ⟨hc,zq.1 hn,ht⟩
   ·rw [if_neg ht] at h;cases h
  ·rw [if_neg hn] at h;cases h
 ·rw [if_neg hc] at h
  exact absurd h hc
theorem qdo (B:Bk) (n t:Int) (w:World) (hb:BookAt w B) (hG:Globs w):Calls qg 30 #[bv B,.int .i64 n,.int .i64 t] w fun e w'=>(∃A,e=.returned (.tuple #[bv A,.int .i64 (zX B n t)])∧BookAt w' A∧qbh B n t A)∧Below w.heap.size w w':=by
 by_cases h0:zX B n t=0
 ·obtain ⟨hc,⟨hn0,hn1⟩,ht⟩:=qbx h0
  obtain ⟨k,rfl⟩:=Int.eq_ofNat_of_zero_le hn0
  refine (qex B k t w hb hG hc (by omega) ht).mono fun e w' q=>⟨?_,q.2⟩
  obtain ⟨g,gc,l,tb,e1,e2,e3,e4⟩:=q.1
  refine ⟨{ B with gs:=l,ga:=some ⟨g,0,none⟩,gc:=gc },by rw [h0];exact e1,QO (B:={ B with gs:=jG B.gs k t }) e2 e3 e4 (XZ hb.small k t),.inl ⟨h0,rfl,rfl,rfl,e2⟩⟩
 ·exact (qbi B n t w hb hG h0).mono fun e w' q=>⟨⟨bkZ,q.1,bkZ_at _,.inr ⟨h0,rfl⟩⟩,q.2⟩
theorem qbW (B:Bk) (n t:Int) (w:World) (hb:BookAt w B):Calls qg 31 #[bv B,.int .i64 n,.int .i64 t] w fun e w'=>(∃A,e=.returned (.tuple #[bv A,.int .i64 (zX B n t)])∧BookAt w' A∧qbh B n t A)∧Below w.heap.size w w' :=
 (qbV B n t w hb).mono fun e w' q=>⟨by
   have k:=q.1
   unfold JM at k
   by_cases h0:zX B n t=0
   ·rw [if_pos h0] at k
    obtain ⟨g,gc,e1,e2⟩:=k
    refine ⟨{ B with gs:=jG B.gs n.toNat t,ga:=some ⟨g,0,none⟩,gc:=gc },?_,e2,.inl ⟨h0,rfl,rfl,rfl,.refl _⟩⟩
    rw [h0,e1]
    show _=Ending.returned (.tuple #[.agg #[_,_,_,_,.slice (some ⟨g,0,none⟩) (jG B.gs n.toNat t).length gc],_])
    rw [zu]
   ·rw [if_neg h0] at k
    exact ⟨bkZ,k,bkZ_at _,.inr ⟨h0,rfl⟩⟩,q.2⟩
theorem qdB {B A A':Bk} {n t:Int} (h:qbh B n t A) (h':qbh B n t A'):A'.lim=A.lim∧A'.growth=A.growth∧A'.hours=A.hours∧zh A.gs A'.gs:=by
 rcases h with ⟨k,a,b,c,d⟩ | ⟨k,rfl⟩
 ·rcases h' with ⟨_,a',b',c',d'⟩ | ⟨k',_⟩
  ·exact ⟨a'.trans a.symm,b'.trans b.symm,c'.trans c.symm,d.symm.trans d'⟩
  ·exact absurd k k'
 ·rcases h' with ⟨k',_⟩ | ⟨_,rfl⟩
  ·exact absurd k' k
  ·exact ⟨rfl,rfl,rfl,.refl _⟩
set_option maxHeartbeats 8000000 in
set_option maxRecDepth 100000 in
theorem qah (HL:∀W,Globs W→Calls qg 7 #[] W fun e w'=>e=.returned (.bool true)∧Below W.heap.size W w') (B:Bk) (n m k t:Int) (w:World) (hG:Globs w) (hI:BookIn w B) (hb:BookAt w B) (hm:modest B=true) :
 Calls qg 5 #[bv B,.int .i64 n,.int .i64 m,.int .i64 k,.int .i64 t] w fun e w'=>e=.returned (.bool true)∧Below w.heap.size w w':=by
 have hgr:=fun W (h:Below w.heap.size w W)=>qaf B W (hI.keep h)
 simp only [hm,Bool.not_true] at hgr
 have hbe:=fun W (h:Below w.heap.size w W)=>qct B n W (hb.keep h) (hG.keep h)
 have hre:=fun W (h:Below w.heap.size w W)=>qgo B n W (hb.keep h)
 obtain ⟨bk,x1,x2,ba,eb⟩:=qdw B n
 simp only [eb] at hbe hre
 have hsp:=fun W (h:Below w.heap.size w W)=>qdt B n m W (hb.keep h) (hG.keep h)
 have hrs:=fun W (h:Below w.heap.size w W)=>qbZ B n m W (hb.keep h)
 have hll:=spL_len B n m
 have hsu:=fun W (h:Below w.heap.size w W)=>qeE B n W (hb.keep h) (hG.keep h)
 have hru:=fun W (h:Below w.heap.size w W)=>rSum_any B n W (hb.keep h)
 obtain ⟨ss,sa,es⟩:=qgO B n
 simp only [es] at hsu hru
 have hch:=fun W (h:Below w.heap.size w W)=>qdo B k t W (hb.keep h) (hG.keep h)
 have hrc:=fun W (h:Below w.heap.size w W)=>qbW B k t W (hb.keep h)
 have hsame:∀A A':Bk,qbh B k t A→qbh B k t A'→A'.lim=A.lim∧A'.growth=A.growth∧A'.hours=A.hours∧zh A.gs A'.gs:=fun _ _ h h'=>qdB h h'
 have HSA:=Lib.hid hsame
 have HG:=Lib.hid hG
 generalize spL B n m=L at *
 generalize spA B n m=la at *
 generalize zX B k t=ca at *
 generalize hCO:qbh B k t=CO at *
 clear hCO eb es hm hb hI hsame
 obtain ⟨lim,gr,hr,gs,ga,gc⟩:=B
 simp only [bv] at hgr hbe hre hsp hrs hsu hru hch hrc ⊢
 go_enter s5,ntmps5
 go_upto_region 3 with (go_at_call 6;(with_reducible refine (hgr _ (by go_grown)).mono ?_);rintro e w1 ⟨rfl,hB1⟩;(first | (replace hB:=bcl (by with_reducible assumption) hB1) | (replace hB:=bcl (by go_grown) hB1) | (have hB:=hB1));(try clear hc hg hz);obtain ⟨hc,hg⟩:=qp hB;have hz:=hB.size;clear hB1;(try simp at hz);(try have hlt0:w.heap.size < w1.heap.size:=by omega))
 obtain ⟨wz,hwz⟩:∃wz,wz=w.heap.size:=⟨_,rfl⟩
 have h:KSt w w1 [(⟨wz,0,none⟩,.int .i64 lim.1),(⟨wz,1,none⟩,.int .i64 lim.2),(⟨wz,2,none⟩,.int .i64 gr),(⟨wz,3,none⟩,.int .i64 hr),(⟨wz,4,none⟩,.slice ga gs.length gc)]:=by
  have hBW:Below w.heap.size w w1:=bcl (w:=w) (by go_grown) hB
  refine ⟨fun p hp=>?_,HG.out.keep hBW,hBW⟩
  simp only [List.mem_cons,List.not_mem_nil,or_false] at hp
  rcases hp with rfl | rfl | rfl | rfl | rfl <;> (rw [hwz];go_cell)
 obtain ⟨⟨q0,q1,q2,q3,q4⟩,_⟩:=h.c5
 have qz:=lt_of_cell q0
 rw [← hwz]
 clear hc hg hB hz hwz hgr
 go_upto_region 4 with (go_at_call 24;(with_reducible refine (hbe _ h.bw).mono ?_);rintro e w2 ⟨rfl,hB⟩;replace h:=(h.call hB).box2 (.int .i64 x1) (.int .i64 x2) 23;clear q0 q1 q2 q3 q4 qz;clear hB;obtain ⟨⟨x0,x1'⟩,hq⟩:=h.c2;obtain ⟨⟨q0,q1,q2,q3,q4⟩,_⟩:=hq.c5;clear hq;have xz:=lt_of_cell x0;have qz:=lt_of_cell q0)
 go_upto_region 5 with (go_at_call 25;(with_reducible refine (hre _ h.bw).mono ?_);rintro e w3 ⟨rfl,hB⟩;replace h:=(h.call hB).box2 (.int .i64 x1) (.int .i64 x2) 23;clear x0 x1' xz q0 q1 q2 q3 q4 qz;clear hB;obtain ⟨⟨y0,y1⟩,hq⟩:=h.c2;obtain ⟨⟨x0,x1'⟩,hq⟩:=hq.c2;obtain ⟨⟨q0,q1,q2,q3,q4⟩,_⟩:=hq.c5;clear hq;have yz:=lt_of_cell y0;have xz:=lt_of_cell x0;have qz:=lt_of_cell q0)
 go_upto_region 7 with fail
 replace h:=h.c2.2.c2.2
 clear hbe hre y0 y1 x0 x1' yz xz
 go_upto_region 8 with (go_at_call 26;(with_reducible refine (hsp _ h.bw).mono ?_);rintro e w4 ⟨⟨va,rfl,hva⟩,hB⟩;replace h:=h.call hB;clear q0 q1 q2 q3 q4 qz;clear hB;obtain ⟨⟨q0,q1,q2,q3,q4⟩,_⟩:=h.c5;have qz:=lt_of_cell q0)
 go_upto_region 9 with (go_at_call 27;(with_reducible refine (hrs _ h.bw).mono ?_);rintro e w5 ⟨⟨vb,rfl,hvb⟩,hB⟩;replace h:=h.call hB;replace hva:=hva.keep hB;clear q0 q1 q2 q3 q4 qz;clear hB;obtain ⟨⟨q0,q1,q2,q3,q4⟩,_⟩:=h.c5;have qz:=lt_of_cell q0)
 have hsn:=ZY va vb L L _ hva hvb hll hll
 rw [decide_eq_true (rfl:L=L)] at hsn
 clear hsp hrs hva hvb
 go_upto_region 11 with (go_at_call 14;(with_reducible refine hsn.mono ?_);rintro e w6 ⟨rfl,hB⟩;replace h:=h.call hB;clear q0 q1 q2 q3 q4 qz;clear hB;obtain ⟨⟨q0,q1,q2,q3,q4⟩,_⟩:=h.c5;have qz:=lt_of_cell q0)
 go_upto_region 12 with (go_at_call 28;(with_reducible refine (hsu _ h.bw).mono ?_);rintro e w7 ⟨rfl,hB⟩;replace h:=h.call hB;clear q0 q1 q2 q3 q4 qz;clear hB;obtain ⟨⟨q0,q1,q2,q3,q4⟩,_⟩:=h.c5;have qz:=lt_of_cell q0)
 go_upto_region 15 with (go_at_call 29;(with_reducible refine (hru _ h.bw).mono ?_);rintro e w8 ⟨rfl,hB⟩;replace h:=h.call hB;clear q0 q1 q2 q3 q4 qz;clear hB;obtain ⟨⟨q0,q1,q2,q3,q4⟩,_⟩:=h.c5;have qz:=lt_of_cell q0)
 clear hsn hsu hru
 go_upto_region 16 with (go_at_call 30;(with_reducible refine (hch _ h.bw).mono ?_);rintro e w9 ⟨⟨⟨Al,Ag,Ah,As,Aa,Ac⟩,rfl,hAt,hAo⟩,hB⟩;simp only [bv];replace h:=(h.call hB).box5 (.int .i64 Al.1) (.int .i64 Al.2) (.int .i64 Ag) (.int .i64 Ah) (.slice Aa As.length Ac) 26;replace hAt:=Lib.hid (hAt.keep ((Below.refl _ w9).alloc (Nat.le_refl _) (.cells #[.int .i64 Al.1,.int .i64 Al.2,.int .i64 Ag,.int .i64 Ah,.slice Aa As.length Ac] 26)));clear q0 q1 q2 q3 q4 qz;clear hB;obtain ⟨⟨a0,a1,a2,a3,a4⟩,hq⟩:=h.c5;obtain ⟨⟨q0,q1,q2,q3,q4⟩,_⟩:=hq.c5;clear hq;have az:=lt_of_cell a0;have qz:=lt_of_cell q0)
 go_upto_region 17 with (go_at_call 31;(with_reducible refine (hrc _ h.bw).mono ?_);rintro e w10 ⟨⟨⟨Cl,Cg,Ch,Cs,Ca,Cc⟩,rfl,hCt,hCo⟩,hB⟩;simp only [bv];replace h:=(h.call hB).box5 (.int .i64 Cl.1) (.int .i64 Cl.2) (.int .i64 Cg) (.int .i64 Ch) (.slice Ca Cs.length Cc) 26;replace hAt:=Lib.hid ((hAt.out.keep hB).keep ((Below.refl _ w10).alloc (Nat.le_refl _) (.cells #[.int .i64 Cl.1,.int .i64 Cl.2,.int .i64 Cg,.int .i64 Ch,.slice Ca Cs.length Cc] 26)));replace hCt:=Lib.hid (hCt.keep ((Below.refl _ w10).alloc (Nat.le_refl _) (.cells #[.int .i64 Cl.1,.int .i64 Cl.2,.int .i64 Cg,.int .i64 Ch,.slice Ca Cs.length Cc] 26)));clear a0 a1 a2 a3 a4 az q0 q1 q2 q3 q4 qz;clear hB;obtain ⟨⟨c0,c1,c2,c3,c4⟩,hq⟩:=h.c5;obtain ⟨⟨a0,a1,a2,a3,a4⟩,hq⟩:=hq.c5;clear hq;have cz:=lt_of_cell c0;have az:=lt_of_cell a0)
 obtain ⟨f1,f2,f3,f4⟩:=HSA.out _ _ hAo hCo
 have hsm:=Same_yes _ hAt.out hCt.out f1 f2 f3 f4
 simp only [bv] at hsm
 clear hch hrc f1 f2 f3 f4 hAo hCo
 go_wp2_with (first | (go_at_call 19;(with_reducible refine hsm.mono ?_);rintro e w11 ⟨rfl,hB⟩;replace h:=h.call hB;clear hB) | (go_at_call 7;(refine (HL _ h.gl).mono ?_);rintro e w12 ⟨rfl,hB9⟩))
 go_ret
 exact ⟨rfl,(h.call hB9).bw⟩
set_option maxHeartbeats 8000000 in
set_option maxRecDepth 100000 in
theorem Xr (HL:∀W,Globs W→Calls qg 7 #[] W fun e w'=>e=.returned (.bool true)∧Below W.heap.size W w') (B:Bk) (n m k t:Int) (w:World) (hG:Globs w) (hI:BookIn w B) (hm:modest B=false) :
 Calls qg 5 #[bv B,.int .i64 n,.int .i64 m,.int .i64 k,.int .i64 t] w fun e w'=>e=.returned (.bool true)∧Below w.heap.size w w':=by
 have hgr:=fun W (h:Below w.heap.size w W)=>qaf B W (hI.keep h)
 simp only [hm,Bool.not_false] at hgr
 have HLL:=fun W (h:Below w.heap.size w W)=>HL W (hG.keep h)
 obtain ⟨lim,gr,hr,gs,ga,gc⟩:=B
 simp only [bv] at *
 clear hI hm HL hG
 go_enter s5,ntmps5
 go_wp2_with (first | (go_at_call 6;(with_reducible refine (hgr _ (by go_grown)).mono ?_);rintro e w1 ⟨rfl,hB1⟩;have hB:Below w.heap.size w w1:=Below.call (by go_grown) hB1 (by simp)) | (go_at_call 7;(refine (HLL _ hB).mono ?_);rintro e w2 ⟨rfl,hB2⟩))
 go_ret
 exact ⟨rfl,bcl hB hB2⟩
theorem qbm (HL:∀W,Globs W→Calls qg 7 #[] W fun e w'=>e=.returned (.bool true)∧Below W.heap.size W w') (B:Bk) (n m k t:Int) (w:World) (hG:Globs w) (hI:BookIn w B) (hc:B.gs.length≤B.gc) :
 Calls qg 5 #[bv B,.int .i64 n,.int .i64 m,.int .i64 k,.int .i64 t] w fun e w'=>e=.returned (.bool true)∧Below w.heap.size w w':=by
 cases hm:modest B with
 | false=>exact Xr HL B n m k t w hG hI hm
 | true=>exact qah HL B n m k t w hG hI (hI.at (qdW hm) hc) hm
end Go.Proofs.Tryz
end
namespace Go.Proofs.Tryz
open Go Go.Load Go.RowKit
def exC (g a b:Nat):Bk:={ exB g a b with lim:=(1,2) }
theorem e_loss:QZ qX (2,1) 2=tv (2,5) 0:=by kernel_rfl
theorem e_lost:QZ qN (2,1) 2=tv (4,5) 0:=by kernel_rfl
theorem qeX:QZ xS (2,1) 2=tv (6,5) 0:=by kernel_rfl
theorem e_enough:qbA (2,1) (1,5)=.tuple #[.int .i64 4,.bool true,.int .i64 0]:=by kernel_rfl
theorem e_bears:qeJ 2 1 (1,5)=tv (1,1) 0:=by kernel_rfl
theorem e_over:overN 1 1 (1,1)=tv (1,5) 0:=by kernel_rfl
theorem e_fits:fitsV [(2,3),(4,4)] 2=tv (6,7) 0:=by kernel_rfl
section
variable (g a b:Nat)
theorem Jr:checkN (exB g a b)=0:=by kernel_rfl
theorem e_check2:checkN (exC g a b)=0:=by kernel_rfl
theorem e_good:Xw (exB g a b) 2=[]:=by kernel_rfl
theorem e_needs:qdb (exB g a b)=[2,4]:=by kernel_rfl
theorem e_best:Zf (exB g a b) 0=.tuple #[.int .i64 1,fv (36,95),.int .i64 0]:=by kernel_rfl
theorem e_spread:Zj 2 (qV 0 2 (exB g a b).gs)=[1,0]:=by kernel_rfl
theorem e_sum:qdl (exB g a b) 0=.tuple #[.int .i64 1300,.int .i64 0]:=by kernel_rfl
theorem e_good2:Xw (exC g a b) 2=[0,1]:=by kernel_rfl
theorem e_year:yearV (exC g a b)=.tuple #[.int .i64 1,.int .i64 0,.bool true,.int .i64 0]:=by kernel_rfl
theorem e_busy:qbt (exB g a b) 0=.tuple #[.int .i64 0,.int .i64 0]:=by kernel_rfl
theorem e_grow:checkN (za (exB g a b) 1)=0∧(za (exB g a b) 1).gs.map (·.traffic)=[[(2,1),(2,2)],[(3,1),(2,1)]]:=⟨by kernel_rfl,by kernel_rfl⟩
end
end Go.Proofs.Tryz
