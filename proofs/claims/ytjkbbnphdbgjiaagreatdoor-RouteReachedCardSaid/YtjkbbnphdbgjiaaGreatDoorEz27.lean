/-
  Lemmas about the program and the machine (TrI to L2), upon which the last text of this claim rests; no condition.
-/
import Derived.ReadAgain
import Derived.ChangeReads
import Derived.ChangeOld
import Derived.ChangeShapes
import Derived.Test.YtjkbbnphdbgjiaaGreatDoorCards
import Derived.Test.YtjkbbnphdbgjiaaGreatDoorTie
import Derived.ProofKit
import Derived.LaidMore
import Derived.OpenShut
import Derived.Stop.Joined
import Derived.Conc.Holds
import Derived.Conc.LeavingOf
import Derived.SevenTiedAt
import Derived.ChangeCalls
import Derived.Deep.SlicePairs
import Derived.ChangeSlices
import Derived.WideShapes
import Derived.Deep.Slices
import Derived.ChangeArms
import Derived.Test.YtjkbbnphdbgjiaaGreatDoorEz26
import Derived.Test.YtjkbbnphdbgjiaaGreatDoorE02
set_option linter.unusedSimpArgs false
set_option linter.unusedVariables false
set_option maxRecDepth 100000
namespace Go.Proofs.Tryz
open Go Go.Conc Go.Sim Go.RowKit
theorem globs_tp{w:World}{t:Nat->Question->Nat}(h:Globs w):Globs (w.tp t):=⟨h.c⟩
section
variable (e0:TypeId) (f0:Nat×Nat)
def gBs:Array Obj:=#[.cells chkA e0 (0,max (max 5 f0.2) 1)]
variable {e0:TypeId} {f0:Nat×Nat}
theorem gB_eq{n:Nat}(h:gB n=true):n=0:=by simpa[gB]using h
theorem xX:(gBs e0 f0)[0]? = some (.cells chkA e0 (0,max (max 5 f0.2) 1)):=rfl
theorem qee{C:FuncId->Prop}{R:Nat->Nat->Prop}(hC:∀f,XG f=true->C f):AR C R chkA chkA:=by
 have h:∀f,XG f=true->VR C R (fOf f) (fOf f):=fun f hf=>AR.func (hC f hf) AR.nil AR.nil;exact((((AR.nil.push (h _ (by decide +kernel))).push (h _ (by decide +kernel))).push (h _ (by decide +kernel))).push (h _ (by decide +kernel))).push (h _ (by decide +kernel))
theorem gBs_rel{C:FuncId->Prop}{D:FuncId->Code->Prop}{R:Nat->Nat->Prop}{W:World}(hC:∀f,XG f=true->C f)(hc:W.heap[0]? = some (.cells chkA e0 f0)){n:Nat}(h:gB n=true) :
 ∃o o',(gBs e0 f0)[n]? = some o/\W.heap[n]? = some o'/\OR C D R o o':=by
 obtain rfl:=gB_eq h;exact⟨_,_,xX,hc,.cells e0 (qee hC) fz_max⟩
theorem gBs_self{C:FuncId->Prop}{D:FuncId->Code->Prop}{R:Nat->Nat->Prop}(hC:∀f,XG f=true->C f){n:Nat}(h:gB n=true):∃o,(gBs e0 f0)[n]? = some o/\OR C D R o o:=by
 obtain rfl:=gB_eq h;exact⟨_,xX,.cells e0 (qee hC) (qeD (by omega))⟩
theorem gBs_fz{n:Nat}(h:gB n=true):∃c e hi,(gBs e0 f0)[n]? = some (.cells c e (0,hi))/\c.size<=hi:=by
 obtain rfl:=gB_eq h;exact⟨_,_,_,xX,by show 5<=max (max 5 f0.2) 1;omega⟩
theorem qeE{w:World}(h:∀n,gB n=true->w.heap[n]? = (gBs e0 f0)[n]?):Globs w:=by
 have h0:=(h 0 (by decide)).trans xX;refine⟨fun i v hv=>?_⟩;unfold World.cell?;simp only[h0];exact hv
end
abbrev XB(X:Nat->Prop)(b:Nat):Prop:=X b/\¬gB b=true
inductive PlainX (X:Nat->Prop):Value->Prop
 | int (k:IntKind) (n:Int):PlainX X (.int k n)
 | str (s:ByteArray):PlainX X (.string s)
 | snil (l c:Nat):PlainX X (.slice none l c)
 | slice (a:Addr) (l c:Nat):X a.block->PlainX X (.slice (some a) l c)
 | zcap (a:Addr):PlainX X (.slice (some a) 0 0)
theorem PlainX.pl_eq{X:Nat->Prop}{v:Value}(h:PlainX X v):pl (fun b=>XB X b\/gB b=true) v=v:=by
 cases h with
 | int k n=>exact pl_int
 | str s=>exact pl_string
 | snil l c=>exact pl_snil
 | zcap a=>exact pl_zcap
 | slice a l c h =>
   refine pl_slice ?_;by_cases hg:gB a.block=true
   ·exact .inr hg
   ·exact .inl ⟨h,hg⟩
theorem qdH{f:FuncId}{args:Array Value}{W:World}{e0:TypeId}{f0:Nat×Nat}{X:Nat->Prop}(hf:XG f=true)(hne:f≠71)(hX:∀b,X b->∃c e f,W.heap[b]? = some (.cells c e f))(hargs:∀(C:FuncId->Prop) (R:Nat->Nat->Prop),(∀b,X b->R b b)->AR C R args args)(hng:Tryz.prog.globals.size<=W.heap.size)
 (hc:W.heap[0]? = some (.cells chkA e0 f0))
 (hC:∀w,Globs w->(∀b o v,X b->W.cell? ⟨b,o,none⟩=some v->PlainX X v->w.cell? ⟨b,o,none⟩=some v)->Calls qp f args w fun e w'=>e=.returned (.bool true)) :
 ∃N last o w' t',runNT Tryz.prog (N+1) (solo (G (Frame.enter Tryz.prog f args .normal) []) W) #[]=(.ended o w',t')/\runN Tryz.prog N (solo (G (Frame.enter Tryz.prog f args .normal) []) W)=.next last/\step Tryz.prog last=.ended o w' /\
  Conc.Good Tryz.prog (fun v w'=>(∃_:World,v=.bool true)/\(∀k,k<W.heap.size->w'.heap[k]? = W.heap[k]?)/\W.heap.size<=w'.heap.size/\w'.os=W.os/\w'.output=W.output/\w'.tape=W.tape) last o w' t':=by
 obtain⟨bs,hbs⟩:∃bs,bs=gBs e0 f0:=⟨_,rfl⟩;have hGlobs:∀w:World,(∀n,gB n=true->w.heap[n]? = bs[n]?)->Globs w:=fun w h=>qeE (e0:=e0) (f0:=f0) (by rw[<-hbs];exact h);have hfz:∀n,gB n=true->∃c e hi,bs[n]? = some (.cells c e (0,hi))/\c.size<=hi:=fun n h=>by rw[hbs];exact gBs_fz h
 have hrel:∀(C:FuncId->Prop) (D:FuncId->Code->Prop) (R:Nat->Nat->Prop),(∀f,XG f=true->C f)->∀n,gB n=true->∃o o',bs[n]? = some o/\W.heap[n]? = some o'/\OR C D R o o':=fun C D R h1 n h=>by rw[hbs];exact gBs_rel h1 hc h
 have hself:∀(C:FuncId->Prop) (D:FuncId->Code->Prop) (R:Nat->Nat->Prop),(∀f,XG f=true->C f)->∀n,gB n=true->∃o,bs[n]? = some o/\OR C D R o o:=fun C D R h1 n h=>by rw[hbs];exact gBs_self h1 h
 have hcell:∀b o v,gB b=true->W.cell? ⟨b,o,none⟩=some v->∀w:World,w.heap[b]? = bs[b]?->w.cell? ⟨b,o,none⟩=some v:=fun b o v hg hv w hw=>by
  rw[hbs]at hw;obtain rfl:=gB_eq hg;rw[xX]at hw;unfold World.cell? at hv⊢;simp only[hc]at hv;simp only[hw];exact hv
 have hlt:∀n,gB n=true->n<W.heap.size:=fun n h=>by
  obtain⟨_,_,_,e,_⟩:=hrel (fun _=>True) (fun _ _=>True) (fun _ _=>True) (fun _ _=>trivial) n h;exact(qy e).1
 obtain⟨Ws,hWs⟩:∃Ws,Ws=jH (XB X) (fun n=>gB n=true) bs W:=⟨_,rfl⟩
 have hgs:∀n,gB n=true->Ws.heap[n]? = bs[n]? := fun n h=>by
  obtain⟨o,e,_⟩:=hself (fun _=>True) (fun _ _=>True) (fun _ _=>True) (fun _ _=>trivial) n h;rw[hWs,e];exact xz (hlt n h) h e
 have hd:∀b,XB X b->¬gB b=true:=fun b h=>h.2;have hXX:∀b,XB X b->∃c e f,W.heap[b]? = some (.cells c e f):=fun b h=>hX b h.1
 have hRX:∀b,X b->RS (XB X) (fun n=>gB n=true) b b:=fun b h=>⟨rfl,by
  by_cases hg:gB b=true
  ·exact .inr hg
  ·exact .inl ⟨h,hg⟩⟩
 have h0:W0 (cfgOf qp Tryz.prog XG gB (fun n=>XB X n\/gB n=true) Ws.heap W.heap) (RS (XB X) fun n=>gB n=true) Ws W:=by
  rw[hWs];exact small_w0 hXX hng (hrel _ _ _ fun f h=>h) hfz hd fun b=>Iff.rfl
 have h0s:W0 (cfgOf qp qp XG gB (fun n=>XB X n\/gB n=true) Ws.heap W.heap) (RS (XB X) fun n=>gB n=true) Ws Ws:=by
  rw[hWs];exact qdM hXX hng (fun b h=>⟨hlt b h,hself _ _ _ (fun f h=>h) b h⟩) hfz hd fun b=>Iff.rfl
 have hcells:∀b o v,X b->W.cell? ⟨b,o,none⟩=some v->PlainX X v->Ws.cell? ⟨b,o,none⟩=some v:=fun b o v hb hv hp=>by
  by_cases hg:gB b=true
  ·exact hcell b o v hg hv Ws (hgs b hg)
  ·rw[hWs,qdL hv ⟨hb,hg⟩ hg,hp.pl_eq]
 refine qbB (cov_a _ Ws.heap W.heap) (cov_as (fun n=>XB X n\/gB n=true) Ws.heap W.heap) (Post:=fun v _=>v=.bool true) (qbt (cov_a _ Ws.heap W.heap) (cov_as _ _ _) (show XG 96=true by decide +kernel)) hf hne (hargs _ _ hRX) (hargs _ _ hRX) hf h0 h0s (by rw[hWs];exact qbF hfz) (fun n h=>⟨rfl,.inr h⟩) (fun b c h=>h.2) (fun n h=>⟨⟨rfl,h⟩,rfl,rfl⟩) (fun _ _ _ h=>h) (fun v _ h=>by rw[h];rfl) fun t=>?_;refine(hC (Ws.tp t) ?_ ?_).mono fun e w' h1=>⟨_,h1,rfl⟩
 ·exact globs_tp (hGlobs Ws hgs)
 ·exact hcells
end Go.Proofs.Tryz
namespace Go.Proofs.YtjkbbnphdbgjiaaGreatDoor
open Go Go.ChangeShapes
section
variable {H:Type} {enc:TypeId×Value->H} {P:Program} {w w':World}
theorem qfK(hh:∀k,k<w.heap.size->w'.heap[k]? = w.heap[k]?){p:MemPlace}(hp:p.block<w.heap.size):w.sameAt w' p:=by
 cases p with
 | cell b o =>
   have:=hh b hp;show w'.cell? ⟨b,o,none⟩=w.cell? ⟨b,o,none⟩;unfold World.cell?;simp only[this]
 | map b=>exact hh b hp
theorem YD{T:TypeId->Prop}(K:Kids P T)(hz:∀t e,T t->P.underlying t=some (.slice e)->0<P.cellsOf e)(hh:∀k,k<w.heap.size->w'.heap[k]? = w.heap[k]?):∀{ts:List TypeId} {vs:List Value} {ds:List (DataW H)} {ps:List MemPlace},
 (∀t∈ts,T t)->DataW.TrodAll enc P w 0 (fun _=>true) true ts vs ds ps->DataW.TrodAll enc P w' 0 (fun b=>decide (b<w.heap.size)) true ts vs ds ps
 | [],_,_,_,_,h=>by
   obtain⟨rfl,rfl,rfl⟩:=trodAll_nil h;rfl
 | t::ts,_,_,_,hT,h=>by
   obtain⟨v,vs1,d,ds1,a,b,rfl,rfl,rfl,⟨n,h1⟩,h2⟩:=trodAll_cons h;refine⟨a,b,⟨n,?_⟩,YD K hz hh (fun u hu=>hT u (List.mem_cons_of_mem _ hu)) h2,rfl⟩;have hl:=fun p hp=>DataW.trod_lt n _ _ _ h1 p hp;have h3:=DataW.trod_respare (spare':=fun b=>decide (b<w.heap.size)) K hz n _ _ _ (hT t List.mem_cons_self) h1 (fun p hp=>by simpa using hl p hp);exact DataW.trod_carry n _ _ _ h3 fun p hp=>qfK hh (hl p hp)
end
end Go.Proofs.YtjkbbnphdbgjiaaGreatDoor
section
namespace Go.Proofs.YtjkbbnphdbgjiaaGreatDoor
open Go Go.Conc Go.Sim Go.RowKit Go.ChangeShapes Go.WideShapes Go.ChangeAt
open Go.Proofs.Tryz
abbrev laidAll:List (String×DataW Unit):=[("baudot/route.checks",Rows.laid_baudot_route_checks)]
theorem ownK:ownKnob Tryz.prog.godebug=none:=by kernel_rfl
theorem gChecks:Tryz.prog.globalNamed "baudot/route.checks"=some 0:=by kernel_rfl
theorem tChecks:(Tryz.prog.globals[0]?).map (·.type)=some 114:=by kernel_rfl
theorem cInt:Tryz.prog.cellsOf 3=1:=by kernel_rfl
theorem cFn:Tryz.prog.cellsOf 78=1:=by kernel_rfl
theorem cTab:Tryz.prog.cellsOf 114=5:=by kernel_rfl
theorem var_heap{P:Program}{w:World}{n:String}{g:Nat}{cs:Array Value}(hg:P.globalNamed n=some g)(h:w.var? P n=some cs):∃e f,w.heap[g]? = some (.cells cs e f):=by
 simp only[World.var?,hg,Option.bind_some]at h;split at h
 ·rename_i c e f he;cases h;exact⟨_,_,he⟩
 ·cases h
theorem qcZ{cs:Array Value}(h:cs.toList.length=5):∃a b c d e,cs=#[a,b,c,d,e]:=by
 obtain⟨l⟩:=cs
 match l,h with
 | [a,b,c,d,e],_=>exact⟨a,b,c,d,e,rfl⟩
theorem of_laid{W:World}(h:laidMetH Tryz.prog laidAll W):∃e1 f1,W.heap[0]? = some (.cells chkA e1 f1):=by
 have h1:=h.funcs (List.mem_cons_self ..);obtain⟨g,t,cs,fuel,p,hg,ht,hv,hd⟩:=h1;obtain rfl:=qz (gChecks.symm.trans hg);obtain rfl:=qz (tChecks.symm.trans ht);obtain⟨e1,f1,hh1⟩:=var_heap hg hv;obtain⟨xs,m,rfl,hx,hl,hn,hel⟩:=DataW.trod_array Tryz.underlying114 hd;rw[cTab]at hl;obtain⟨c0,c1,c2,c3,c4,rfl⟩:=qcZ hl;have k0:=hel 0 (by decide);have k1:=hel 1 (by decide);have k2:=hel 2 (by decide);have k3:=hel 3 (by decide);have k4:=hel 4 (by decide);rw[cFn]at k0 k1 k2 k3 k4
 match xs,hn,hx,k0,k1,k2,k3,k4 with
 | [x0,x1,x2,x3,x4],_,hx,k0,k1,k2,k3,k4 =>
   have hx':(DataW.agg [.held [40,98,97,117,100,111,116,47,114,111,117,116,101,46,100,97,121,41,46,116,111,119,110,115],.held [40,98,97,117,100,111,116,47,114,111,117,116,101,46,100,97,121,41,46,103,114,111,117,112,115],.held [40,98,97,117,100,111,116,47,114,111,117,116,101,46,100,97,121,41,46,111,114,100,101,114,115],.held [40,98,97,117,100,111,116,47,114,111,117,116,101,46,100,97,121,41,46,104,111,108,100,115],.held [40,98,97,117,100,111,116,47,114,111,117,116,101,46,100,97,121,41,46,99,97,108,108,115]]:DataW (List UInt8))=.agg [x0.1,x1.1,x2.1,x3.1,x4.1]:=congrArg Prod.fst hx;simp only[DataW.agg.injEq,List.cons.injEq,and_true]at hx';obtain⟨x0,q0⟩:=x0;obtain⟨x1,q1⟩:=x1;obtain⟨x2,q2⟩:=x2;obtain⟨x3,q3⟩:=x3;obtain⟨x4,q4⟩:=x4;obtain⟨rfl,rfl,rfl,rfl,rfl⟩:=hx';have e0':=func_of_trod (f0:=170) Tryz.underlying78 (by kernel_rfl) (show DataW.trod (funcToken Tryz.prog) Tryz.prog W 0 (fun _=>true) true m 78 [c0]=_ from k0);have e1':=func_of_trod (f0:=171) Tryz.underlying78 (by kernel_rfl) (show DataW.trod (funcToken Tryz.prog) Tryz.prog W 0 (fun _=>true) true m 78 [c1]=_ from k1);have e2':=func_of_trod (f0:=172) Tryz.underlying78 (by kernel_rfl) (show DataW.trod (funcToken Tryz.prog) Tryz.prog W 0 (fun _=>true) true m 78 [c2]=_ from k2);have e3':=func_of_trod (f0:=173) Tryz.underlying78 (by kernel_rfl) (show DataW.trod (funcToken Tryz.prog) Tryz.prog W 0 (fun _=>true) true m 78 [c3]=_ from k3);have e4':=func_of_trod (f0:=168) Tryz.underlying78 (by kernel_rfl) (show DataW.trod (funcToken Tryz.prog) Tryz.prog W 0 (fun _=>true) true m 78 [c4]=_ from k4)
   subst e0' e1' e2' e3' e4';exact⟨e1,f1,hh1⟩
theorem u8_wf(x:Int):(Lit.int .u8 x).wf=true↔0<=x/\x<256:=by
 have e:(Lit.int .u8 x).wf=(decide ((0:Int)<=x)&&decide (x<=255)):=rfl;rw[e,Bool.and_eq_true,decide_eq_true_iff,decide_eq_true_iff];omega
theorem kept_of{w w':World}(h1:w'.os=w.os)(h2:w'.output=w.output)(h3:∀k,k<w.heap.size->w'.heap[k]? = w.heap[k]?)(may:MemPlace->Prop):w.keptBut w' may:=by
 refine⟨h1,h2,fun i hi=>?_⟩;rw[h3 i hi];rcases w.heap[i]? with _|o
 ·rfl
 ·cases o<;>simp
theorem qfY(Lk:Looks){p:Pinned}{s:OpenSpec}{c:OpenClaim}(al:List (List PathCond))(kinds:List LaidKind)(tests:Bool)(har:Bool×String)(lk:Bool)
 (hc:c.holds p s) (hal:∀D∈al,(c.withDomain D).holds p s) (hw:c.wfByText s=true) (hwal:∀D∈al,(c.withDomain D).wfByText s=true)
 (htie:c.laidByTextAt Lk p kinds tests)
 (hst:c.start=.entering) (hnb:c.noBlocks=false/\c.again=false) (hm:p.checked.prog.mainIs=some (har.1,har.2.toList)) (hn:(!har.1&&har.2.isEmpty && !lk)=false)
 (hl:∀f fn,p.checked.prog.funcNamed c.func=some f->p.checked.prog.funcs[f]? = some fn->lk=p.checked.prog.looks []/\∀(j:Nat) t,fn.params[j]? = some t->p.checked.prog.wantsStandIn t=false)
 (hg:true=c.goesBy p.checked.prog) :
 Claim7.holds p (.plain s) { stood:={ row:=c,standIns:=[],harness:=har,looks:=lk },kinds:=[],alts:=al,goes:=true,laidByText:=true,laidKinds:=kinds,laidTests:=tests,laidLooks:=Lk }:=by
 have h6:∀r:OpenClaim,Claim7.isSixth { stood:={ row:=r,standIns:=[],harness:=har,looks:=lk },kinds:=[] }=false:=fun r=>by simpa[Claim7.isSixth]using hn
 refine⟨Claim7.tied_new_at Lk kinds tests (Claim7.new_of_sixth hc har lk hst hnb hm (h6 c) hl) hw,fun D hD=>?_,htie,(fun h=>by cases h),hg⟩;exact Claim7.tied_new_at Lk kinds tests (Claim7.new_of_sixth (hal D hD) har lk hst hnb hm (h6 _) hl) (hwal D hD)
theorem qbE:∀t e,t<Tryz.prog.types.size->Tryz.prog.underlying t=some (.slice e)->0<Tryz.prog.cellsOf e:=slices_full_of Tryz.prog (by kernel_rfl)
theorem kids_all:Kids Tryz.prog (·<Tryz.prog.types.size):=kids_rows (by kernel_rfl) (by kernel_rfl)
def qbP{H:Type}(enc:TypeId×Value->H)(fn:Func)(W:World)(args:Array Value)(ds:List (DataW H)):Prop :=
 ∃p r b0,args.size=fn.params.size/\DataW.TrodAll enc Tryz.prog W 0 (fun _=>true) true fn.params.toList args.toList ds p/\∀(j:Nat) (t:TypeId) v,fn.params[j]? = some t->args[j]? = some v->Value.okWide Tryz.prog W r b0 t v
def qbR(f:FuncId)(W:World)(args:Array Value):Prop :=
 ∃X:Nat->Prop,(∀b,X b->∃c e f,W.heap[b]? = some (.cells c e f))/\(∀(C:FuncId->Prop) (R:Nat->Nat->Prop),(∀b,X b->R b b)->AR C R args args) /\
  ∀w,Globs w->(∀b o v,X b->W.cell? ⟨b,o,none⟩=some v->PlainX X v->w.cell? ⟨b,o,none⟩=some v)->Calls qp f args w fun e w'=>e=.returned (.bool true)
theorem law_at{f:FuncId}{fn:Func}{s:ChangeSpec}(os:Os)(started:os.Started)(H:Type)(enc:TypeId×Value->H)(hfn:Tryz.prog.funcs[f]? = some fn)(hres:fn.resultTypes=#[4])(hvars:s.vars=[])
 (hspec:∀ds:List (DataW H),ds.length=fn.params.size->s.fn H ds={ results:=[.lit (.bool true)],args:=ds }) (hpar:∀t∈fn.params.toList,t<Tryz.prog.types.size) (hf:XG f=true) (hne:f≠71)
 (hC:∀W args ds,qbP enc fn W args ds->qbR f W args)
 (witness:∃(w:World) (tape:Tape) (i:Input),w.os=os/\(w.forCall tape i).Shaped Tryz.checked.prog/\i.vars=[]/\Input.okWide Tryz.checked.prog (w.forCall tape i) .any w.heap.size f i /\
   ((s.pre enc Tryz.checked.prog fn [] false (w.forCall tape i).memory i.args/\laidMetH Tryz.checked.prog laidAll (w.forCall tape i).memory)/\sizedMet enc Tryz.checked.prog fn (OpenSpec.ofChange s) false (w.forCall tape i).memory i.args)/\({}:Assume).holds Tryz.checked.prog (lone (Frame.enter Tryz.checked.prog f i.args .normal) [] (w.forCall tape i))) :
 ReturnsInLeavingWide {} Tryz.checked os f .any (fun w args=>(s.pre enc Tryz.prog fn [] false w args/\laidMetH Tryz.prog laidAll w)/\sizedMet enc Tryz.prog fn (OpenSpec.ofChange s) false w args) (s.post enc Tryz.prog fn false true false false):=by
 refine returnsInLeavingWide_of_good ownK started witness ?_;intro w tape i _ _ _ hok hpre hholds;obtain⟨_,_,_,fn',hfn',_,_,_,hsz,hval⟩:=hok;have e:fn'=fn:=qz (hfn'.symm.trans hfn);subst e;obtain⟨⟨⟨ds,gs,before,hw,_⟩,hL⟩,_⟩:=hpre;have hw':=DataW.Whole.of_heap (w':=w.forCall tape i) (by rfl) hw;have hL':=of_laid (laidMetH.of_heap (w':=w.forCall tape i) (by rfl) hL);have hval':∃b0,∀(j:Nat) (t:TypeId) v,fn'.params[j]? = some t->i.args[j]? = some v->Value.okWide Tryz.prog (w.forCall tape i) .any b0 t v:=⟨_,hval⟩;clear hval hL hw hholds witness;revert hL' hval' hw';generalize w.forCall tape i=W;intro hw' hL' hval';obtain⟨e1,f1,hc⟩:=hL';obtain⟨b0,hval'⟩:=hval';have hwhole:=hw';rw[hvars]at hw';obtain⟨p,q,hA,hV,hpq,_,_⟩:=hw';obtain⟨hgs,rfl⟩:=trodVars_none hV;subst hgs;obtain⟨X,hX,hargs,hcalls⟩:=hC W i.args ds ⟨p,_,b0,hsz,hA,hval'⟩
 have hng:Tryz.prog.globals.size<=W.heap.size:=by
  have h1:Tryz.prog.globals.size=1:=by kernel_rfl
  have h2:=(qy hc).1;omega
 have hlen:ds.length=fn'.params.size:=by
  have:=(trodAll_length hA).2;simpa using this
 obtain⟨N,last,o,w',t',r1,r2,r3,r4⟩:=qdH hf hne hX hargs hng hc hcalls;refine⟨N,last,o,w',t',r1,r2,r3,r4.mono fun v hp=>ChangeSpec.post_blind ?_⟩;obtain⟨⟨_,rfl⟩,h1,h2,h3,h4,_⟩:=hp;refine⟨ds,[],_,[],p,[],hwhole,?_,?_,?_,kept_of h3 h4 h1 _,fun h=>by cases h⟩
 ·rw[List.append_nil,hspec _ hlen,hres];exact trodAll_mk1 (shut_bool Tryz.underlying4 _)
 ·rw[List.append_nil,hspec _ hlen];exact YD kids_all qbE h1 hpar hA
 ·rw[List.append_nil,hspec _ hlen,hvars];rfl
theorem door_met(os:Os)(args:Array Value):laidMetH Tryz.prog laidAll ((World.doorLaid Tryz.prog 19 os).forCall (fun _ _=>0) ⟨#[],args,[]⟩).memory :=
 laidMetH_of_parts3 (fuel:=8) (laidMet_of_run' 8 (by kernel_rfl) (by kernel_rfl)) (by kernel_rfl) (by kernel_rfl)
end Go.Proofs.YtjkbbnphdbgjiaaGreatDoor
end
namespace Go.Load
open Go Go.RowKit
def qaV(w:World)(b o:Nat)(l:List (Int×Int)):Prop:=∀(i:Nat) (x:Int×Int),l[i]? = some x->w.cell? ⟨b,o+i*2,none⟩=some (.int .i64 x.1)/\w.cell? ⟨b,o+i*2+1,none⟩=some (.int .i64 x.2)
theorem qaV.keep{w w1:World}{b o:Nat}{l:List (Int×Int)}(h:qaV w b o l)(hB:Below w.heap.size w w1):qaV w1 b o l:=fun i x hx=>⟨qb _ hB (h i x hx).1,qb _ hB (h i x hx).2⟩
def U16At(w:World)(b o:Nat)(q:List Int):Prop:=∀(i:Nat) (x:Int),q[i]? = some x->w.cell? ⟨b,o+i,none⟩=some (.int .u16 x)
theorem U16At.keep{w w1:World}{b o:Nat}{q:List Int}(h:U16At w b o q)(hB:Below w.heap.size w w1):U16At w1 b o q:=fun i x hx=>qb _ hB (h i x hx)
end Go.Load
section
namespace Go.Proofs.YtjkbbnphdbgjiaaGreatDoor
open Go Go.Conc Go.Sim Go.Load Go.RowKit Go.ChangeShapes Go.WideShapes Go.ChangeAt
open Go.Proofs.Tryz
theorem addr_add(a:Addr)(i:Nat)(h:a.spot=none):a.add i=⟨a.block,a.off+i,none⟩:=by
 obtain⟨b,o,s⟩:=a;obtain rfl:s=none:=h;unfold Addr.add;split
 ·rename_i e;subst e;rfl
 ·rfl
def AddrZ(W:World)(a:Option Addr)(l c:Nat):Prop:=∀x,a=some x->(l=0/\c=0)\/∃cs e f,W.heap[x.block]? = some (.cells cs e f)
theorem QQ{W:World}{a:Addr}{v:Value}(h:W.cell? a=some v):a.spot=none/\∃cs e f,W.heap[a.block]? = some (.cells cs e f):=by
 unfold World.cell? at h;split at h
 ·rename_i c e f hb;split at h
  ·cases h
  ·rename_i hs;exact⟨by simpa using hs,_,_,_,hb⟩
 ·cases h
theorem add_zero'(a:Addr):a.add 0=a:=by unfold Addr.add;rfl
structure RowRd {α:Type} (W:World) (k:Nat) (encf:α->List Value) (a:Option Addr) (l:List α) (c:Nat):Prop where
 row:qi W k encf a l
 cap:l.length<=c/\c<=maxLen
 ad:AddrZ W a l.length c
 nil:a=none->c=0
structure OrdRd (W:World) (o:OrdM):Prop where
 row:RowRd W 1 xu o.a o.ws o.c
 ways:∀x∈o.ws,RowRd W 1 encI x.a x.l x.c
structure DayRd (W:World) (D:DayM):Prop where
 ts:RowRd W 1 encS D.ta D.ts D.tc
 nm:∀s∈D.ts,s.size<=maxLen
 gs:RowRd W 4 JV D.ga D.gs D.gc
 os:RowRd W 3 Yf D.oa D.os D.oc
 or:∀o∈D.os,OrdRd W o
 hs:RowRd W 4 qcV D.ha D.hs D.hc
 cs:RowRd W 5 YQ D.ca D.cs D.cc
section
variable {H:Type} {enc:TypeId×Value->H} {W:World}
noncomputable abbrev TR (enc:TypeId×Value->H) (W:World):=DataW.trod enc Tryz.prog W 0 (fun _=>true) true
theorem xL{α:Type}{ty e:TypeId}{k:Nat}{encf:α->List Value}{Q:α->Prop}(m0:α)(hu:Tryz.prog.underlying ty=some (.slice e))(hk:Tryz.prog.cellsOf e=k)(hk0:0<k)(hlen:∀m,(encf m).length=k)
 (rd:∀(fuel:Nat) (cs:List Value) (x:DataW H×List MemPlace),TR enc W fuel e cs=some x->∃m,cs=encf m/\Q m) {fuel:Nat} {cs:List Value} {x:DataW H×List MemPlace} (h:TR enc W fuel ty cs=some x) :
 ∃(l:List α) (a:Option Addr) (c:Nat),cs=[.slice a l.length c]/\RowRd W k encf a l c/\∀m∈l,Q m:=by
 rcases Go.Deep.open_slice hu h with⟨hc,_⟩|⟨a',len,cap,m,kk,D,P,hc,_,hlc,hcm,hm,_,hx⟩
 ·subst hc;exact⟨[],none,0,rfl,⟨fun h=>(by simp at h),⟨ql,Nat.zero_le _⟩,fun x e=>(by cases e),fun _=>rfl⟩,fun g hg=>(by cases hg)⟩
 ·subst hc;have hm':m=cap:=by simpa using hm
  rw[hk]at hx
  have one:∀i,∃g:α,i<cap->(∀j v,(encf g)[j]? = some v->W.cell? (a'.add (i*k+j))=some v)/\Q g:=fun i=>by
   by_cases hi:i<cap
   ·obtain⟨cs,q1,q2⟩:=hx i (by omega);obtain⟨g,rfl,hg⟩:=rd _ _ _ q2;obtain⟨_,_,q3⟩:=World.cells?_some q1;refine⟨g,fun _=>⟨fun j v hv=>?_,hg⟩⟩;have hj:j<(encf g).length:=(qB hv).1;have:=q3 j (by rw[<-hlen g];exact hj);rw[Go.Deep.add_add]at this;rw[this];exact hv
   ·exact⟨m0,fun h=>absurd h hi⟩
  obtain⟨g,hg⟩:=Classical.axiomOfChoice one
  have hb:1<=cap->a'.spot=none/\∃cs e f,W.heap[a'.block]? = some (.cells cs e f):=fun h1=>by
   have q0:=(hg 0 (by omega)).1 0 ((encf (g 0))[0]'(by rw[hlen];exact hk0)) (qM _);rw[Nat.zero_mul,Nat.add_zero,add_zero']at q0;exact QQ q0
  refine⟨(List.range len).map g,some a',cap,by simp,⟨fun h1=>?_,⟨by simpa using hlc,hcm⟩,fun x e=>?_,fun e=>(by cases e)⟩,fun y hy=>?_⟩
  ·have h1':1<=len:=(by simpa using h1);have hs:=(hb (by omega)).1;refine⟨a'.block,a'.off,?_,fun i x hi=>?_⟩
   ·obtain⟨b,o,s⟩:=a';obtain rfl:s=none:=hs;rfl
   ·rw[List.getElem?_map,Option.map_eq_some_iff]at hi;obtain⟨j,hj,rfl⟩:=hi
    have hjn:j<len:=by
     have:=(qB hj);obtain⟨h1,h2⟩:=this;simp at h1 h2;omega
    have hji:j=i:=by
     have:=(qB hj);obtain⟨h1,h2⟩:=this;simp at h2;omega
    subst hji;intro u v hv;have:=(hg j (by omega)).1 u v hv;rw[addr_add _ _ hs]at this;rw[Nat.add_assoc];exact this
  ·cases e;by_cases h1:1<=cap
   ·exact .inr (hb h1).2
   ·exact .inl ⟨by simp;omega,by omega⟩
  ·obtain⟨j,hj,rfl⟩:=List.mem_map.1 hy;have hj:=List.mem_range.1 hj;exact(hg j (by omega)).2
theorem read_int(fuel:Nat)(cs:List Value)(x:DataW H×List MemPlace)(h:TR enc W fuel 3 cs=some x):∃m:Int,cs=encI m/\True:=by
 obtain⟨n,a0,_⟩:=DataW.trod_int Tryz.underlying3 h;exact⟨n,a0,trivial⟩
theorem read_str(fuel:Nat)(cs:List Value)(x:DataW H×List MemPlace)(h:TR enc W fuel 9 cs=some x):∃m:ByteArray,cs=encS m/\m.size<=maxLen:=by
 obtain⟨s,a0,_,hs⟩:=DataW.trod_string Tryz.underlying9 h;exact⟨s,a0,hs⟩
theorem read_hld(fuel:Nat)(cs:List Value)(x:DataW H×List MemPlace)(h:TR enc W fuel 118 cs=some x):∃m:HldM,cs=qcV m/\True:=by
 obtain⟨ys,m0,rfl,hy,hl0,hn0,hel0⟩:=DataW.trod_struct Tryz.underlying118 h;rw[show Tryz.prog.cellsOf 118=4 by kernel_rfl]at hl0
 match cs,hl0 with
 | [z0,z1,z2,z3],_ =>
   have j0:TR enc W m0 3 (([z0,z1,z2,z3].drop 0).take (Tryz.prog.cellsOf 3))=ys[0]? := hel0 0 _ rfl;rw[show Tryz.prog.cellsOf 3=1 by kernel_rfl]at j0;have j1:TR enc W m0 3 (([z0,z1,z2,z3].drop 1).take (Tryz.prog.cellsOf 3))=ys[1]? := hel0 1 _ rfl;rw[show Tryz.prog.cellsOf 3=1 by kernel_rfl]at j1;have j2:TR enc W m0 3 (([z0,z1,z2,z3].drop 2).take (Tryz.prog.cellsOf 3))=ys[2]? := hel0 2 _ rfl;rw[show Tryz.prog.cellsOf 3=1 by kernel_rfl]at j2;have j3:TR enc W m0 3 (([z0,z1,z2,z3].drop 3).take (Tryz.prog.cellsOf 3))=ys[3]? := hel0 3 _ rfl;rw[show Tryz.prog.cellsOf 3=1 by kernel_rfl]at j3
   match ys,hn0 with
   | [y0,y1,y2,y3],_ =>
     obtain⟨n0,a0,_⟩:=DataW.trod_int Tryz.underlying3 (show TR enc W m0 3 [z0]=some y0 from j0);obtain⟨n1,a1,_⟩:=DataW.trod_int Tryz.underlying3 (show TR enc W m0 3 [z1]=some y1 from j1);obtain⟨n2,a2,_⟩:=DataW.trod_int Tryz.underlying3 (show TR enc W m0 3 [z2]=some y2 from j2);obtain⟨n3,a3,_⟩:=DataW.trod_int Tryz.underlying3 (show TR enc W m0 3 [z3]=some y3 from j3);simp only[List.cons.injEq,and_true]at a0 a1 a2 a3;exact⟨⟨n0,n1,n2,n3⟩,by rw[a0,a1,a2,a3];rfl,trivial⟩
theorem read_cal(fuel:Nat)(cs:List Value)(x:DataW H×List MemPlace)(h:TR enc W fuel 99 cs=some x):∃m:CalM,cs=YQ m/\True:=by
 obtain⟨ys,m0,rfl,hy,hl0,hn0,hel0⟩:=DataW.trod_struct Tryz.underlying99 h;rw[show Tryz.prog.cellsOf 99=5 by kernel_rfl]at hl0
 match cs,hl0 with
 | [z0,z1,z2,z3,z4],_ =>
   have j0:TR enc W m0 3 (([z0,z1,z2,z3,z4].drop 0).take (Tryz.prog.cellsOf 3))=ys[0]? := hel0 0 _ rfl;rw[show Tryz.prog.cellsOf 3=1 by kernel_rfl]at j0;have j1:TR enc W m0 3 (([z0,z1,z2,z3,z4].drop 1).take (Tryz.prog.cellsOf 3))=ys[1]? := hel0 1 _ rfl;rw[show Tryz.prog.cellsOf 3=1 by kernel_rfl]at j1;have j2:TR enc W m0 3 (([z0,z1,z2,z3,z4].drop 2).take (Tryz.prog.cellsOf 3))=ys[2]? := hel0 2 _ rfl;rw[show Tryz.prog.cellsOf 3=1 by kernel_rfl]at j2;have j3:TR enc W m0 3 (([z0,z1,z2,z3,z4].drop 3).take (Tryz.prog.cellsOf 3))=ys[3]? := hel0 3 _ rfl;rw[show Tryz.prog.cellsOf 3=1 by kernel_rfl]at j3;have j4:TR enc W m0 3 (([z0,z1,z2,z3,z4].drop 4).take (Tryz.prog.cellsOf 3))=ys[4]? := hel0 4 _ rfl;rw[show Tryz.prog.cellsOf 3=1 by kernel_rfl]at j4
   match ys,hn0 with
   | [y0,y1,y2,y3,y4],_ =>
     obtain⟨n0,a0,_⟩:=DataW.trod_int Tryz.underlying3 (show TR enc W m0 3 [z0]=some y0 from j0);obtain⟨n1,a1,_⟩:=DataW.trod_int Tryz.underlying3 (show TR enc W m0 3 [z1]=some y1 from j1);obtain⟨n2,a2,_⟩:=DataW.trod_int Tryz.underlying3 (show TR enc W m0 3 [z2]=some y2 from j2);obtain⟨n3,a3,_⟩:=DataW.trod_int Tryz.underlying3 (show TR enc W m0 3 [z3]=some y3 from j3);obtain⟨n4,a4,_⟩:=DataW.trod_int Tryz.underlying3 (show TR enc W m0 3 [z4]=some y4 from j4);simp only[List.cons.injEq,and_true]at a0 a1 a2 a3 a4;exact⟨⟨n0,n1,n2,n3,n4⟩,by rw[a0,a1,a2,a3,a4];rfl,trivial⟩
theorem read_grp(fuel:Nat)(cs:List Value)(x:DataW H×List MemPlace)(h:TR enc W fuel 120 cs=some x):∃m:GrpM,cs=JV m/\True:=by
 obtain⟨ys,m0,rfl,hy,hl0,hn0,hel0⟩:=DataW.trod_struct Tryz.underlying120 h;rw[show Tryz.prog.cellsOf 120=4 by kernel_rfl]at hl0
 match cs,hl0 with
 | [z0,z1,z2,z3],_ =>
   have j0:TR enc W m0 3 (([z0,z1,z2,z3].drop 0).take (Tryz.prog.cellsOf 3))=ys[0]? := hel0 0 _ rfl;rw[show Tryz.prog.cellsOf 3=1 by kernel_rfl]at j0;have j1:TR enc W m0 3 (([z0,z1,z2,z3].drop 1).take (Tryz.prog.cellsOf 3))=ys[1]? := hel0 1 _ rfl;rw[show Tryz.prog.cellsOf 3=1 by kernel_rfl]at j1;have j2:TR enc W m0 40 (([z0,z1,z2,z3].drop 2).take (Tryz.prog.cellsOf 40))=ys[2]? := hel0 2 _ rfl;rw[show Tryz.prog.cellsOf 40=2 by kernel_rfl]at j2
   match ys,hn0 with
   | [y0,y1,y2],_ =>
     obtain⟨n0,a0,_⟩:=DataW.trod_int Tryz.underlying3 (show TR enc W _ 3 [z0]=some y0 from j0);obtain⟨n1,a1,_⟩:=DataW.trod_int Tryz.underlying3 (show TR enc W m0 3 [z1]=some y1 from j1);obtain⟨us,m1,rfl,_,_,hn1,hel1⟩:=DataW.trod_struct Tryz.underlying40 (show TR enc W m0 40 [z2,z3]=some y2 from j2);have k0:TR enc W m1 3 (([z2,z3].drop 0).take (Tryz.prog.cellsOf 3))=us[0]? := hel1 0 _ rfl;have k1:TR enc W m1 3 (([z2,z3].drop 1).take (Tryz.prog.cellsOf 3))=us[1]? := hel1 1 _ rfl;rw[cInt]at k0 k1
     match us,hn1 with
     | [u0,u1],_ =>
       obtain⟨n2,a2,_⟩:=DataW.trod_int Tryz.underlying3 (show TR enc W m1 3 [z2]=some u0 from k0);obtain⟨n3,a3,_⟩:=DataW.trod_int Tryz.underlying3 (show TR enc W m1 3 [z3]=some u1 from k1);simp only[List.cons.injEq,and_true]at a0 a1 a2 a3;exact⟨⟨n0,n1,n2,n3⟩,by rw[a0,a1,a2,a3];rfl,trivial⟩
theorem read_way(fuel:Nat)(cs:List Value)(x:DataW H×List MemPlace)(h:TR enc W fuel 31 cs=some x):∃m:WayM,cs=xu m/\RowRd W 1 encI m.a m.l m.c:=by
 obtain⟨l,a,c,rfl,hr,_⟩:=xL (k:=1) (encf:=encI) (0:Int) Tryz.underlying31 (by kernel_rfl) (by decide) (fun _=>rfl) read_int h;exact⟨⟨l,a,c⟩,rfl,hr⟩
theorem read_ord(fuel:Nat)(cs:List Value)(x:DataW H×List MemPlace)(h:TR enc W fuel 65 cs=some x):∃m:OrdM,cs=Yf m/\OrdRd W m:=by
 obtain⟨ys,m0,rfl,hy,hl0,hn0,hel0⟩:=DataW.trod_struct Tryz.underlying65 h;rw[show Tryz.prog.cellsOf 65=3 by kernel_rfl]at hl0
 match cs,hl0 with
 | [z0,z1,z2],_ =>
   have j0:TR enc W m0 3 (([z0,z1,z2].drop 0).take (Tryz.prog.cellsOf 3))=ys[0]? := hel0 0 _ rfl;rw[show Tryz.prog.cellsOf 3=1 by kernel_rfl]at j0;have j1:TR enc W m0 3 (([z0,z1,z2].drop 1).take (Tryz.prog.cellsOf 3))=ys[1]? := hel0 1 _ rfl;rw[show Tryz.prog.cellsOf 3=1 by kernel_rfl]at j1;have j2:TR enc W m0 45 (([z0,z1,z2].drop 2).take (Tryz.prog.cellsOf 45))=ys[2]? := hel0 2 _ rfl;rw[show Tryz.prog.cellsOf 45=1 by kernel_rfl]at j2
   match ys,hn0 with
   | [y0,y1,y2],_ =>
     obtain⟨n0,a0,_⟩:=DataW.trod_int Tryz.underlying3 (show TR enc W m0 3 [z0]=some y0 from j0);obtain⟨n1,a1,_⟩:=DataW.trod_int Tryz.underlying3 (show TR enc W m0 3 [z1]=some y1 from j1);obtain⟨l,a,c,a2,hr,hw⟩:=xL (k:=1) (encf:=xu) (⟨[],none,0⟩:WayM) Tryz.underlying45 (by kernel_rfl) (by decide) (fun _=>rfl) read_way (show TR enc W _ 45 [z2]=some y2 from j2);simp only[List.cons.injEq,and_true]at a0 a1 a2;exact⟨⟨n0,n1,l,a,c⟩,by rw[a0,a1,a2];rfl,hr,hw⟩
theorem read_day{r:Reach}{b0:Nat}{v:Value}{d:DataW H}{ps:List MemPlace}(hv:Value.okWide Tryz.prog W r b0 28 v)(h:DataW.Trod enc Tryz.prog W 0 (fun _=>true) true 28 v d ps):∃D:DayM,v=dv D/\DayRd W D:=by
 obtain⟨cs,rfl,hcs⟩:=okWide_struct Tryz.underlying28 hv;obtain⟨fuel,h⟩:=h;obtain⟨ys,m0,rfl,hy,hl0,hn0,hel0⟩:=DataW.trod_struct Tryz.underlying28 h;have c5:Tryz.prog.cellsOf 28=5:=by kernel_rfl
 rw[c5]at hcs;obtain⟨l⟩:=cs
 match l,hcs with
 | [z0,z1,z2,z3,z4],_ =>
   have j0:TR enc W m0 22 (([z0,z1,z2,z3,z4].drop 0).take (Tryz.prog.cellsOf 22))=ys[0]? := hel0 0 _ rfl;rw[show Tryz.prog.cellsOf 22=1 by kernel_rfl]at j0;have j1:TR enc W m0 23 (([z0,z1,z2,z3,z4].drop 1).take (Tryz.prog.cellsOf 23))=ys[1]? := hel0 1 _ rfl;rw[show Tryz.prog.cellsOf 23=1 by kernel_rfl]at j1;have j2:TR enc W m0 24 (([z0,z1,z2,z3,z4].drop 2).take (Tryz.prog.cellsOf 24))=ys[2]? := hel0 2 _ rfl;rw[show Tryz.prog.cellsOf 24=1 by kernel_rfl]at j2;have j3:TR enc W m0 25 (([z0,z1,z2,z3,z4].drop 3).take (Tryz.prog.cellsOf 25))=ys[3]? := hel0 3 _ rfl;rw[show Tryz.prog.cellsOf 25=1 by kernel_rfl]at j3;have j4:TR enc W m0 26 (([z0,z1,z2,z3,z4].drop 4).take (Tryz.prog.cellsOf 26))=ys[4]? := hel0 4 _ rfl;rw[show Tryz.prog.cellsOf 26=1 by kernel_rfl]at j4
   match ys,hn0 with
   | [y0,y1,y2,y3,y4],_ =>
     obtain⟨l0,a0,c0,e0,hr0,hq0⟩:=xL (k:=1) (encf:=encS) (⟨#[]⟩:ByteArray) Tryz.underlying22 (by kernel_rfl) (by decide) (fun _=>rfl) read_str (show TR enc W _ 22 [z0]=some y0 from j0);obtain⟨l1,a1,c1,e1,hr1,hq1⟩:=xL (k:=4) (encf:=JV) (⟨0,0,0,0⟩:GrpM) Tryz.underlying23 (by kernel_rfl) (by decide) (fun _=>rfl) read_grp (show TR enc W _ 23 [z1]=some y1 from j1);obtain⟨l2,a2,c2,e2,hr2,hq2⟩:=xL (k:=3) (encf:=Yf) (⟨0,0,[],none,0⟩:OrdM) Tryz.underlying24 (by kernel_rfl) (by decide) (fun _=>rfl) read_ord (show TR enc W _ 24 [z2]=some y2 from j2);obtain⟨l3,a3,c3,e3,hr3,hq3⟩:=xL (k:=4) (encf:=qcV) (⟨0,0,0,0⟩:HldM) Tryz.underlying25 (by kernel_rfl) (by decide) (fun _=>rfl) read_hld (show TR enc W _ 25 [z3]=some y3 from j3);obtain⟨l4,a4,c4,e4,hr4,hq4⟩:=xL (k:=5) (encf:=YQ) (⟨0,0,0,0,0⟩:CalM) Tryz.underlying26 (by kernel_rfl) (by decide) (fun _=>rfl) read_cal (show TR enc W _ 26 [z4]=some y4 from j4);simp only[List.cons.injEq,and_true]at e0 e1 e2 e3 e4;subst e0 e1 e2 e3 e4;exact⟨⟨l0,a0,c0,l1,a1,c1,l2,a2,c2,l3,a3,c3,l4,a4,c4⟩,rfl,hr0,hq0,hr1,hr2,hq2,hr3,hr4⟩
end
def DyX(W:World)(D:DayM)(b:Nat):Prop:=(∃cs e f,W.heap[b]? = some (.cells cs e f))/\(∃a:Addr,a.block=b/\(D.ta=some a\/D.ga=some a\/D.oa=some a\/D.ha=some a\/D.ca=some a\/(∃o∈D.os,o.a=some a\/∃x∈o.ws,x.a=some a)))
theorem qaM{W:World}{α:Type}{k c:Nat}{encf:α->List Value}{a:Option Addr}{l:List α}(h:RowRd W k encf a l c){X:Nat->Prop}{C:FuncId->Prop}{R:Nat->Nat->Prop}(hX:∀ad,a=some ad->(∃cs e f,W.heap[ad.block]? = some (.cells cs e f))->X ad.block)(hR:∀b,X b->R b b):VR C R (.slice a l.length c) (.slice a l.length c):=by
 cases a with
 | none=>exact .snil _ _
 | some a =>
   rcases h.ad a rfl with⟨h1,h2⟩|h1
   ·rw[h1,h2];exact .zcap a
   ·exact .slice _ _ ⟨hR _ (hX a rfl h1),rfl,rfl⟩
theorem px_row{W:World}{α:Type}{k c:Nat}{encf:α->List Value}{a:Option Addr}{l:List α}(h:RowRd W k encf a l c){X:Nat->Prop}(hX:∀ad,a=some ad->(∃cs e f,W.heap[ad.block]? = some (.cells cs e f))->X ad.block):PlainX X (.slice a l.length c):=by
 cases a with
 | none=>exact .snil _ _
 | some a =>
   rcases h.ad a rfl with⟨h1,h2⟩|h1
   ·rw[h1,h2];exact .zcap a
   ·exact .slice a _ _ (hX a rfl h1)
theorem vr_day{W:World}{D:DayM}(h:DayRd W D){X:Nat->Prop}{C:FuncId->Prop}{R:Nat->Nat->Prop}(hX:∀b,DyX W D b->X b)(hR:∀b,X b->R b b):VR C R (dv D) (dv D):=by
 refine .agg rfl fun i x x' hx hx'=>?_;rw[hx]at hx';cases hx';have hi:=(qy hx).1;rcases(show i=0\/i=1\/i=2\/i=3\/i=4 by simp at hi;omega)with rfl|rfl|rfl|rfl|rfl
 ·cases hx;exact qaM h.ts (fun a e hb=>hX _ ⟨hb,a,rfl,.inl e⟩) hR
 ·cases hx;exact qaM h.gs (fun a e hb=>hX _ ⟨hb,a,rfl,.inr (.inl e)⟩) hR
 ·cases hx;exact qaM h.os (fun a e hb=>hX _ ⟨hb,a,rfl,.inr (.inr (.inl e))⟩) hR
 ·cases hx;exact qaM h.hs (fun a e hb=>hX _ ⟨hb,a,rfl,.inr (.inr (.inr (.inl e)))⟩) hR
 ·cases hx;exact qaM h.cs (fun a e hb=>hX _ ⟨hb,a,rfl,.inr (.inr (.inr (.inr (.inl e))))⟩) hR
theorem row_in{W w:World}{α:Type}{k c:Nat}{encf:α->List Value}{a:Option Addr}{l:List α}(h:RowRd W k encf a l c)(hlen:∀m,0<(encf m).length){X:Nat->Prop}(hX:∀ad,a=some ad->(∃cs e f,W.heap[ad.block]? = some (.cells cs e f))->X ad.block)
 (hP:∀m∈l,∀v∈encf m,PlainX X v) (hk:∀b o v,X b->W.cell? ⟨b,o,none⟩=some v->PlainX X v->w.cell? ⟨b,o,none⟩=some v):qi w k encf a l:=fun hl=>by
 obtain⟨b,o,e,hc⟩:=h.row hl;refine⟨b,o,e,fun i x hx j v hv=>?_⟩;have h1:=hc i x hx j v hv;exact hk _ _ _ (hX _ e (QQ h1).2) h1 (hP x (qI hx) v (qI hv))
theorem day_in{W w:World}{D:DayM}(h:DayRd W D){X:Nat->Prop}(hX:∀b,DyX W D b->X b)(hk:∀b o v,X b->W.cell? ⟨b,o,none⟩=some v->PlainX X v->w.cell? ⟨b,o,none⟩=some v):DayAt w D:=by
 have pI:∀(m:Int),∀v∈encI m,PlainX X v:=fun m v hv=>by simp only[encI,List.mem_singleton]at hv;subst hv;exact .int _ _
 refine⟨row_in h.ts (fun _=>Nat.zero_lt_succ _) (fun a e hb=>hX _ ⟨hb,a,rfl,.inl e⟩) ?_ hk,row_in h.gs (fun _=>Nat.zero_lt_succ _) (fun a e hb=>hX _ ⟨hb,a,rfl,.inr (.inl e)⟩) ?_ hk,row_in h.os (fun _=>Nat.zero_lt_succ _) (fun a e hb=>hX _ ⟨hb,a,rfl,.inr (.inr (.inl e))⟩) ?_ hk,?_,?_,row_in h.hs (fun _=>Nat.zero_lt_succ _) (fun a e hb=>hX _ ⟨hb,a,rfl,.inr (.inr (.inr (.inl e)))⟩) ?_ hk,row_in h.cs (fun _=>Nat.zero_lt_succ _) (fun a e hb=>hX _ ⟨hb,a,rfl,.inr (.inr (.inr (.inr (.inl e))))⟩) ?_ hk⟩
 ·intro m _ v hv;simp only[encS,List.mem_singleton]at hv;subst hv;exact .str _
 ·intro m _ v hv;simp only[JV,List.mem_cons,List.not_mem_nil,or_false]at hv;rcases hv with rfl|rfl|rfl|rfl<;>exact .int _ _
 ·intro m hm v hv;simp only[Yf,List.mem_cons,List.not_mem_nil,or_false]at hv;rcases hv with rfl|rfl|rfl
  ·exact .int _ _
  ·exact .int _ _
  ·exact px_row (h.or m hm).row (fun a e hb=>hX _ ⟨hb,a,rfl,.inr (.inr (.inr (.inr (.inr ⟨m,hm,.inl e⟩))))⟩)
 ·intro o ho;refine row_in (h.or o ho).row (fun _=>Nat.zero_lt_succ _) (fun a e hb=>hX _ ⟨hb,a,rfl,.inr (.inr (.inr (.inr (.inr ⟨o,ho,.inl e⟩))))⟩) ?_ hk;intro m hm v hv;simp only[xu,List.mem_singleton]at hv;subst hv;exact px_row ((h.or o ho).ways m hm) (fun a e hb=>hX _ ⟨hb,a,rfl,.inr (.inr (.inr (.inr (.inr ⟨o,ho,.inr ⟨m,hm,e⟩⟩))))⟩)
 ·intro o ho x hx;exact row_in ((h.or o ho).ways x hx) (fun _=>Nat.zero_lt_succ _) (fun a e hb=>hX _ ⟨hb,a,rfl,.inr (.inr (.inr (.inr (.inr ⟨o,ho,.inr ⟨x,hx,e⟩⟩))))⟩) (fun m _=>pI m) hk
 ·intro m _ v hv;simp only[qcV,List.mem_cons,List.not_mem_nil,or_false]at hv;rcases hv with rfl|rfl|rfl|rfl<;>exact .int _ _
 ·intro m _ v hv;simp only[YQ,List.mem_cons,List.not_mem_nil,or_false]at hv;rcases hv with rfl|rfl|rfl|rfl|rfl<;>exact .int _ _
end Go.Proofs.YtjkbbnphdbgjiaaGreatDoor
end
