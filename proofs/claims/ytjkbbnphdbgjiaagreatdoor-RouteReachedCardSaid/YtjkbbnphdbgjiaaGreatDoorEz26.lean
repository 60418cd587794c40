/-
  Lemmas about the program and the machine (SimMeet to TrH), upon which the last text of this claim rests; no condition.
-/
import Derived.Orders
import Derived.Conc.BesideWords
import Derived.Test.YtjkbbnphdbgjiaaGreatDoorEz25
set_option linter.unusedSimpArgs false
set_option linter.unusedVariables false
set_option maxRecDepth 100000
section
namespace Go.Sim
open Go Go.Instr Go.Conc
open Go.ConcN (sumTo upd sumTo_upd upd_ne upd_same)
section
variable {P:Program} {S Bx:Nat->Prop} {ch:Nat} {z:Value} {ok:Bool} {Q:Goroutine->World->Prop} {j:Nat}
theorem RMJ.slip2{gs:Array Goroutine}{a:Goroutine}{w':World}{t:Trace}{m:Nat}{qq:Nat->Nat}(hR:RMJ P S Bx ch z ok Q j gs a w' t m qq)(hwk:∀(x x':Goroutine) (w1:World) (s:Nat) (tm:Bool),w1.heap[ch]? = some (.chan 0 #[] false s s tm)->woken P x x' w1 a=a){i d:Nat}{x:Goroutine}{sl':Option (Nat×Nat)}(hi:gs[i]? = some x)(hx:x.status=.running)(ej:i≠j) :
 (i=0/\∀w1,yh Bx w' w1->Q x w1/\stepG P true x w1=.comm (core x) #[rcase ch z] true (.recv ok) w1 #[])\/∃gs2 t2 d2 m2 qq2,runT P (crowd gs (w'.at d) sl') i=(.next (crowd gs2 (w'.at d2) sl'),t2)/\m2+sumTo gs2.size qq2<m+sumTo gs.size qq/\(1<=m->1<=m2)/\RMJ P S Bx ch z ok Q j gs2 a (w'.at d2) (t++t2) m2 qq2:=by
 have hltj:j<gs.size:=(qy hR.here).1;have hlt0:0<gs.size:=by omega
 obtain⟨hbch,cs,ctm,hch⟩:=hR.chan;obtain⟨a0,h0,hS0⟩:=hR.zero;have hj0:j≠0:=by have:=hR.jpos;omega
 have hlt:i<gs.size:=(qy hi).1;by_cases e0:i=0
 ·subst e0;obtain rfl:x=a0:=by rw[h0]at hi;exact(qz hi).symm
  have hkd:yh Bx w' (w'.at d):=fun _ _=>rfl
  cases hS0 with
  | parked hq=>cases hx
  | ready hr hq=>exact .inl ⟨rfl,hq⟩
  | @step n' _ _ f dd ee hr hs hn =>
    obtain⟨hgo,hev⟩:=hs (w'.at d) hkd;have hst':=hn (w'.at d) hkd
    generalize f (w'.at d)=a' at *
    generalize dd (w'.at d)=d' at *
    generalize ee (w'.at d)=es at *
    have hrunT:=runT_crowd_go (P:=P) (sl:=sl') (i:=0) hi (show stepG P (0==0) x (w'.at d)=_ from hgo);have hown:∀op∈MemOp.ofEvents 0 x.frame.fn x.frame.place es,op.g=0:=fun op hop=>(by obtain⟨_,_,rfl⟩:=Go.Conc.mem_ofEvents hop;rfl);refine .inr ⟨_,_,d',n'+1,qq,hrunT,by simp,fun _=>Nat.succ_pos _,?_⟩;refine⟨?_,hR.jpos,⟨a',Array.getElem?_setIfInBounds_self_of_lt (by simpa using hlt),hst'.keep fun _ _=>rfl⟩,fun k y hk hkj hy=>?_,fun k hk=>?_,?_,zu hR.nums (by simp) (fun op hop=>by rw[hown op hop];simpa using hlt),hR.bx,hR.chan⟩
    ·rw[qJ (Ne.symm hj0),Array.getElem?_map,hR.here,Option.map_some];exact congrArg some (hwk _ _ _ cs ctm hch)
    ·rw[qJ (by omega),Array.getElem?_map]at hy;obtain⟨v,hv,rfl⟩:=Option.map_eq_some_iff.1 hy;have hq:=hR.old k v hk hkj hv;rw[woken_quitsD hq,Deaf_other t (by omega) _ hown];exact hq
    ·rw[Deaf_other t (g':=0) (by simp at hk;omega) _ hown];exact hR.above k (by simpa using hk)
    ·refine hR.past.zero hj0 hown (fun op hop b hb=>?_) ?_ (fun op hop=>?_)
     ·obtain⟨ev,hev',rfl⟩:=Go.Conc.mem_ofEvents hop;exact(hev ev hev').1 b hb
     ·rw[Deaf_own,deafBehind_still fun ev hev'=>⟨(hev ev hev').2.1,(hev ev hev').2.2.1⟩];exact hR.past.hears
     ·obtain⟨ev,hev',rfl⟩:=Go.Conc.mem_ofEvents hop;exact(hev ev hev').2.2.2 _ hR.bx
 ·
  have hq1:=hR.old i x (by omega) ej hi;have hi0:(i==0)=false:=by simp;omega
  cases hqi:qq i with
  | zero=>rw[hqi]at hq1;rw[hq1.1]at hx;cases hx
  | succ k =>
    rw[hqi]at hq1;rcases hq1 with⟨hf,_⟩|⟨_,g',es,hm,hstp,hq'⟩
    ·rw[hf]at hx;cases hx
    have hrunT:=runT_crowd_go (P:=P) (sl:=sl') (i:=i) hi (by rw[hi0];exact hstp (w'.at d))
    have hsum:sumTo gs.size (upd qq i k)+(k+1)=sumTo gs.size qq+k:=by
     have:=sumTo_upd qq k id hlt;simpa[hqi]using this
    have hown:∀op∈MemOp.ofEvents i x.frame.fn x.frame.place es,op.g=i:=fun op hop=>(by obtain⟨_,_,rfl⟩:=Go.Conc.mem_ofEvents hop;rfl);refine .inr ⟨_,_,d,m,upd qq i k,hrunT,by simp;omega,id,?_⟩;refine⟨?_,hR.jpos,⟨a0,?_,hS0.keep fun _ _=>rfl⟩,fun k' y hk hkj hy=>?_,fun k' hk=>?_,?_,zu hR.nums (by simp) (fun op hop=>by rw[hown op hop];simpa using hlt),hR.bx,hR.chan⟩
    ·rw[qJ ej,Array.getElem?_map,hR.here,Option.map_some];exact congrArg some (hwk _ _ _ cs ctm hch)
    ·rw[qJ e0,Array.getElem?_map,h0,Option.map_some,hS0.woken (show(w'.at d).heap[ch]? = _ from hch)]
    ·by_cases hji:i=k'
     ·subst hji;rw[Array.getElem?_setIfInBounds_self_of_lt (by simpa using hlt)]at hy;obtain rfl:=qz hy;rw[upd_same,Deaf_own];exact hq'
     ·rw[qJ hji,Array.getElem?_map]at hy;obtain⟨v,hv,rfl⟩:=Option.map_eq_some_iff.1 hy;have hqj:=hR.old k' v hk hkj hv;rw[woken_quitsD hqj,upd_ne qq k (Ne.symm hji),Deaf_other t hji _ hown];exact hqj
    ·rw[Deaf_other t (g':=i) (by simp at hk;omega) _ hown];exact hR.above k' (by simpa using hk)
    ·refine hR.past.quiet hown (fun op hop=>?_) ?_ ?_ (fun op hop=>?_)
     ·obtain⟨ev,hev,rfl⟩:=Go.Conc.mem_ofEvents hop;exact touch_mute (hm ev hev)
     ·rw[Deaf_other t e0 _ hown];exact hR.past.hears
     ·rw[Deaf_other t ej _ hown];exact hR.past.hears'
     ·obtain⟨ev,hev,rfl⟩:=Go.Conc.mem_ofEvents hop;exact low_mute (hm ev hev) _
structure RMM (P:Program) (S:Nat->Prop) (ch:Nat) (j:Nat) (gs:Array Goroutine) (a0 ak:Goroutine) (w':World) (t:Trace) (qq:Nat->Nat):Prop where
 zero:gs[0]? = some a0
 here:gs[j]? = some ak
 jpos:0<j
 old:∀i g,0<i->i≠j->gs[i]? = some g->QuitsD P (qq i) (Deaf t i) g
 above:∀i,gs.size<=i->Deaf t i=0
 past:Past (zR S) w'.heap.size t
 hears:Deaf t j=0
 chk:∀i a,touchAt t i=some a->a.loc=.obj ch->a.write=true->Knows t j i\/a.kind=.atomic
 nums:∀(i:Nat) (op:MemOp),t[i]? = some op->op.g<gs.size
 chan:ch<w'.heap.size/\∃s tm,w'.heap[ch]? = some (.chan 0 #[] false s s tm)
theorem Jf{t u:Trace}(hu:∀op∈u,op.act≠.mark .disable/\op.act≠.mark .enable)(k:Nat):∀r,(t++u).deaf k (t.size+r)=Deaf t k
 | 0=>deaf_old ql
 | r+1=>by
   have ih:(t++u).deaf k (t.size+r)=Deaf t k:=Jf (t:=t) hu k r
   have hm:∀op,(t++u)[t.size+r]? = some op->op.act≠.mark .disable/\op.act≠.mark .enable:=fun op h=>by
    rw[Array.getElem?_append_right (by omega)]at h;exact hu op (Array.mem_of_getElem? h)
   show Trace.deaf (t++u) k (t.size+r+1)=_;unfold Trace.deaf;split
   ·rename_i h;exact absurd rfl (hm _ h).1
   ·rename_i h;exact absurd rfl (hm _ h).2
   ·exact ih
theorem RMJ.four{gs gs1:Array Goroutine}{a a0 a1:Goroutine}{w':World}{t:Trace}{m:Nat}{qq:Nat->Nat}(hR:RMJ P S Bx ch z ok Q j gs a w' t m qq){d s:Nat}{tm:Bool}{fn fn':FuncId}{ps ps':String}{ops:Array MemOp}
 (he:ops=#[{ g:=j,fn:=fn,pos:=ps,act:=.send ch s },{ g:=0,fn:=fn',pos:=ps',act:=.recv ch s 0 },{ g:=j,fn:=fn,pos:=ps,act:=.sendDone ch s },{ g:=0,fn:=fn',pos:=ps',act:=.recvDone ch s }])
 (hgs:gs1=(gs.setIfInBounds j a1).setIfInBounds 0 a0\/gs1=(gs.setIfInBounds 0 a0).setIfInBounds j a1) :
 RMM P S ch j gs1 a0 a1 ((w'.at d).setChan ch 0 #[] false (s+1) (s+1) tm) (t++ops) qq:=by
 have hltj:j<gs.size:=(qy hR.here).1;have hj:=hR.jpos;have hlt0:0<gs.size:=by omega
 have hb:=hR.bx ch hR.chan.1
 have hsz:((w'.at d).setChan ch 0 #[] false (s+1) (s+1) tm).heap.size=w'.heap.size:=by
  show(w'.heap.setIfInBounds ch _).size=_;simp
 have hops:∀op∈ops,(op.g=0\/op.g=j)/\op.act.touch? = none/\op.act.low w'.heap.size/\op.act≠.mark .disable/\op.act≠.mark .enable:=fun op hop=>by
  rw[he]at hop;simp only[List.mem_toArray,List.mem_cons,List.not_mem_nil,or_false]at hop;rcases hop with rfl|rfl|rfl|rfl
  ·exact⟨.inr rfl,rfl,hb,by simp,by simp⟩
  ·exact⟨.inl rfl,rfl,hb,by simp,by simp⟩
  ·exact⟨.inr rfl,rfl,hb,by simp,by simp⟩
  ·exact⟨.inl rfl,rfl,hb,by simp,by simp⟩
 have hsize:gs1.size=gs.size:=by rcases hgs with rfl|rfl<;>simp
 have hdeaf:∀k,Deaf (t++ops) k=Deaf t k:=fun k=>Go.ConcN.Deaf_still t k _ fun op hop=>(hops op hop).2.2.2;have hlen:(t++ops).size=t.size+4:=by rw[Array.size_append,he];rfl
 have hget:∀k,(t++ops)[t.size+k]? = ops[k]? := fun k=>by rw[Array.getElem?_append_right (by omega)];congr 1;omega
 have hp:(t++ops)[t.size+0]? = some { g:=j,fn:=fn,pos:=ps,act:=.send ch s }:=by rw[hget,he];rfl
 have hq:(t++ops)[t.size+3]? = some { g:=0,fn:=fn',pos:=ps',act:=.recvDone ch s }:=by rw[hget,he];rfl
 have hpart:∀r k,(t++ops).deaf k (t.size+r)=Deaf t k:=fun r k=>Jf (fun op hop=>(hops op hop).2.2.2) k r;have hpq:HappensBefore (t++ops) (t.size+0) (t.size+3):=.single (.inr ⟨.handOver (c:=ch) (k:=s) (by rw[act?_of hp]) (by rw[act?_of hq]),⟨j,by rw[gof hp],by rw[hpart];exact hR.past.hears'⟩,⟨0,by rw[gof hq],by rw[hpart];exact hR.past.hears⟩⟩);refine⟨?_,?_,hj,fun i y hi hij hy=>?_,fun i hi=>?_,?_,(hdeaf j).trans hR.past.hears',fun i a ha hl hw=>?_,fun i op hop=>?_,by rw[hsz];exact hb,s+1,tm,?_⟩
 ·rcases hgs with rfl|rfl
  ·rw[Array.getElem?_setIfInBounds_self_of_lt (by simpa using hlt0)]
  ·rw[qJ (by omega),Array.getElem?_setIfInBounds_self_of_lt hlt0]
 ·rcases hgs with rfl|rfl
  ·rw[qJ (by omega),Array.getElem?_setIfInBounds_self_of_lt hltj]
  ·rw[Array.getElem?_setIfInBounds_self_of_lt (by simpa using hltj)]
 ·rw[hdeaf];refine hR.old i y hi hij ?_;rcases hgs with rfl|rfl
  ·rwa[qJ (by omega),qJ (Ne.symm hij)]at hy
  ·rwa[qJ (Ne.symm hij),qJ (by omega)]at hy
 ·rw[hdeaf];exact hR.above i (hsize▸hi)
 ·rw[hsz];exact hR.past.back (fun op hop=>(hops op hop).2.1) (fun op hop=>(hops op hop).2.2.2) (fun op hop=>(hops op hop).2.2.1) ql (gof hp) (gof hq) hpq
 ·rcases zN ha with⟨_,h1⟩|⟨op,h1,_,h3⟩
  ·rcases hR.past.known i a h1 (by rw[hl];rfl)with h2|⟨_,h2⟩|⟨_,h2,_⟩
   ·exact .inl (h2.app _)
   ·exact .inr h2
   ·rw[h2]at hw;cases hw
  ·rw[(hops op h1).2.1]at h3;cases h3
 ·rw[hsize];rcases getElem?_append_cases hop with⟨_,h1⟩|⟨_,h1⟩
  ·exact hR.nums i op h1
  ·rcases(hops op h1).1 with e|e<;>omega
 ·show(w'.heap.setIfInBounds ch _)[ch]? = _;simp[hb]
theorem qaq{x y:Goroutine}{cs cs':Array CommCase}{sh sh':CommShape}(h:parked x cs sh=parked y cs' sh'):cs=cs'/\sh=sh'/\∀v,Conc.served x v=Conc.served y v:=by
 unfold parked at h;simp only[Goroutine.mk.injEq,Option.some.injEq,Prod.mk.injEq,true_and]at h;obtain⟨h1,h2,h3,h4,h5⟩:=h;exact⟨h4,h5,fun v=>by simp[Conc.served,h1,h2,h3]⟩
theorem Stand.up{m:Nat}{a:Goroutine}{w:World}(h:Stand P Bx ch z ok Q m a w):(m=0/\∃g0,a=Conc.parked (core g0) #[rcase ch z] (.recv ok)/\∀w1,yh Bx w w1->Q g0 w1)\/(1<=m/\a.status=.running):=by
 cases h with
 | parked hq=>exact .inl ⟨rfl,_,rfl,hq⟩
 | ready hr _=>exact .inr ⟨ql,hr⟩
 | step _ _ _ hr _ _=>exact .inr ⟨Nat.succ_pos _,hr⟩
theorem qam(g:Nat)(fn:FuncId)(pos:String):MemOp.ofEvents g fn pos #[]=#[]:=by rw[ofEvents_eq];simp
theorem RMJ.meet2{a:Goroutine}{v z':Value}:∀(M:Nat) (gs:Array Goroutine) (w':World) (sl:Option (Nat×Nat)) (t:Trace) (m:Nat) (qq:Nat->Nat),m+sumTo gs.size qq<=M->1<=m->RMJ P S Bx ch z ok Q j gs (parked (core a) #[scase ch v z'] .send) w' t m qq ->
 ∃(N:Nat) (gs1:Array Goroutine) (sl1:Option (Nat×Nat)) (t1:Trace) (g0:Goroutine) (d s:Nat) (tm:Bool) (qq1:Nat->Nat),runNT P N (crowd gs w' sl) t=(.next (crowd gs1 ((w'.at d).setChan ch 0 #[] false (s+1) (s+1) tm) sl1),t1)/\(∀w1,yh Bx w' w1->Q g0 w1)/\w'.heap[ch]? = some (.chan 0 #[] false s s tm) /\
  RMM P S ch j gs1 (Conc.served (core g0) (recvd ok v true)) (Conc.served (core a) undef) ((w'.at d).setChan ch 0 #[] false (s+1) (s+1) tm) t1 qq1:=by
 intro M
 induction M using Nat.strongRecOn with
 | _ M ih =>
 intro gs w' sl t m qq hM hm hR;obtain⟨hbch,s,tm,hch⟩:=hR.chan;obtain⟨a0,h0,hS⟩:=hR.zero;have hj0:j≠0:=by have:=hR.jpos;omega
 have hr0:a0.status=.running:=by
  rcases hS.up with⟨e,_⟩|⟨_,e⟩
  ·omega
  ·exact e
 have haw:∀x∈gs,Conc.awake x:=by
  intro x hx;obtain⟨i,hi,rfl⟩:=Array.mem_iff_getElem.1 hx;by_cases e0:i=0
  ·subst e0;have:gs[0]=a0:=(by simpa[Array.getElem?_eq_getElem hi]using h0);rw[this];exact awake_of (.inl hr0)
  ·by_cases ej:i=j
   ·subst ej;have:gs[i]=parked (core a) #[scase ch v z'] .send:=(by simpa[Array.getElem?_eq_getElem hi]using hR.here);rw[this];intro t h;cases h
   ·exact awake_of ((hR.old i _ (by omega) ej (Array.getElem?_eq_getElem hi)).status.elim .inl fun x=>.inr (.inr x))
 obtain⟨i,x,d,sl',hi,hx,hst⟩:=crowd_pick (P:=P) (w:=w') (sl:=sl) haw ⟨0,a0,h0,hr0⟩
 have ej:i≠j:=fun e=>by
  subst e;rw[hR.here]at hi;obtain rfl:=qz hi;cases hx
 rcases hR.slip2 (d:=d) (sl':=sl') (fun _ _ _ _ _ h=>woken_send_open _ _ h) hi hx ej with⟨rfl,hq⟩|⟨gs2,t2,d2,m2,qq2,h1,h2,h3,h4⟩
 ·have hQ:∀w1,yh Bx w' w1->Q x w1:=fun w1 h=>(hq w1 h).1;obtain⟨_,hcomm⟩:=hq (w'.at d) (fun _ _=>rfl)
  have hpar:∀k n,(k,n)∈partners (gs.setIfInBounds 0 ph) ch true->k=j/\n=0:=fun k n hm=>by
   obtain⟨y,hy,ho⟩:=mem_partners.1 hm;rcases getElem?_stand gs 0 k y hy with⟨_,rfl⟩|⟨hk,hy⟩
   ·rw[offersAt_ph]at ho;cases ho
   ·by_cases ek:k=j
    ·subst ek;rw[hR.here]at hy;obtain rfl:=qz hy;rw[offersAt_parked_send]at ho;simp at ho;exact⟨rfl,ho⟩
    ·have:y.status≠.blocked:=(by rcases(hR.old k y (by omega) ek hy).status with e|e<;>rw[e]<;>simp);rw[offersAt_of_not_blocked this]at ho;cases ho
  have hne:partners (gs.setIfInBounds 0 ph) ch true≠[]:=fun e=>by
   have:(j,0)∈partners (gs.setIfInBounds 0 ph) ch true:=mem_partners.2 ⟨_,by rw[qJ (Ne.symm hj0)];exact hR.here,by rw[offersAt_parked_send];simp⟩;rw[e]at this;cases this
  obtain⟨k,gk,vk,zk,shk,d',hk0,hk,hr⟩:=crowd_recv_meets_some (sl:=sl') hi (show stepG P (0==0) x (w'.at d)=_ from hcomm) (show(w'.at d).heap[ch]? = _ from hch) hne (fun k n hm=>by
   obtain⟨rfl,rfl⟩:=hpar k n hm
   exact⟨rfl,hj0,_,_,_,_,hR.here⟩)
  have hkj:k=j:=(hpar k 0 (mem_partners.2 ⟨_,by rw[qJ (Ne.symm hk0)];exact hk,by rw[offersAt_parked_send];simp⟩)).1;subst hkj;rw[hR.here]at hk;obtain⟨e1,e2,e3⟩:=qaq (qz hk);subst e2
  have ev:vk=v:=by
   have:=congrArg (fun x:Array CommCase=>(x[0]?).bind (·.send)) e1;simpa[scase]using this.symm
  subst ev;rw[finishComm_recv,finishComm_send,qam,Array.empty_append,<-e3]at hr;refine⟨1,_,sl',_,x,d',s,tm,qq,by simp only[runNT,hst,hr];rfl,hQ,hch,hR.four (d:=d') (s:=s) (tm:=tm) rfl (.inl rfl)⟩
 ·obtain⟨N,gs1,sl1,t1,g0,d1,s1,tm1,qq1,r1,r2,r3,r4⟩:=ih _ (by omega) gs2 (w'.at d2) sl' _ m2 qq2 ql (h3 hm) h4;exact⟨N+1,gs1,sl1,t1,g0,d1,s1,tm1,qq1,by simp only[runNT,hst,h1];exact r1,r2,r3,r4⟩
theorem RMJ.meet{a:Goroutine}{v z':Value}(hrun:a.status=.running):∀(M:Nat) (gs:Array Goroutine) (w':World) (sl:Option (Nat×Nat)) (t:Trace) (m:Nat) (qq:Nat->Nat),m+sumTo gs.size qq<=M->(∀d,stepG P false a (w'.at d)=.comm (core a) #[scase ch v z'] true .send (w'.at d) #[])->RMJ P S Bx ch z ok Q j gs a w' t m qq ->
 ∃(N:Nat) (gs1:Array Goroutine) (sl1:Option (Nat×Nat)) (t1:Trace) (g0:Goroutine) (d s:Nat) (tm:Bool) (qq1:Nat->Nat),runNT P N (crowd gs w' sl) t=(.next (crowd gs1 ((w'.at d).setChan ch 0 #[] false (s+1) (s+1) tm) sl1),t1)/\(∀w1,yh Bx w' w1->Q g0 w1)/\w'.heap[ch]? = some (.chan 0 #[] false s s tm) /\
  RMM P S ch j gs1 (Conc.served (core g0) (recvd ok v true)) (Conc.served (core a) undef) ((w'.at d).setChan ch 0 #[] false (s+1) (s+1) tm) t1 qq1:=by
 intro M
 induction M using Nat.strongRecOn with
 | _ M ih =>
 intro gs w' sl t m qq hM hsend hR;obtain⟨i,x,d,sl',hi,hx,hst⟩:=crowd_pick (P:=P) (w:=w') (sl:=sl) (hR.awake hrun) ⟨j,a,hR.here,hrun⟩;have hj0:j≠0:=by have:=hR.jpos;omega
 by_cases ej:i=j
 ·subst ej;obtain rfl:x=a:=by rw[hR.here]at hi;exact(qz hi).symm
  obtain⟨hbch,s,tm,hch⟩:=hR.chan;obtain⟨a0,h0,hS⟩:=hR.zero;have hlti:i<gs.size:=(qy hi).1;have hi0:(i==0)=false:=by simp;omega
  have hcomm:stepG P (i==0) x (w'.at d)=.comm (core x) #[scase ch v z'] true .send (w'.at d) #[]:=by rw[hi0];exact hsend d
  have hpar:∀k n,(k,n)∈partners (gs.setIfInBounds i ph) ch false->k=0/\n=0/\∃g0,a0=parked (core g0) #[rcase ch z] (.recv ok)/\∀w1,yh Bx w' w1->Q g0 w1:=fun k n hm=>by
   obtain⟨y,hy,ho⟩:=mem_partners.1 hm;rcases getElem?_stand gs i k y hy with⟨_,rfl⟩|⟨hk,hy⟩
   ·rw[offersAt_ph]at ho;cases ho
   ·by_cases ek:k=0
    ·subst ek;rw[h0]at hy;obtain rfl:=qz hy;rcases hS.up with⟨_,g0,rfl,hq⟩|⟨_,e⟩
     ·rw[offersAt_parked_recv]at ho;simp at ho;exact⟨rfl,ho,g0,rfl,hq⟩
     ·rw[offersAt_of_not_blocked (by rw[e];simp)]at ho;cases ho
    ·have:y.status≠.blocked:=(by rcases(hR.old k y (by omega) hk hy).status with e|e<;>rw[e]<;>simp);rw[offersAt_of_not_blocked this]at ho;cases ho
  by_cases hp:partners (gs.setIfInBounds i ph) ch false=[]
  ·
   have hr:=crowd_waits (sl:=sl') hi hcomm (fun cc hcc=>by
    simp at hcc;subst hcc
    exact ways_send_none (show(w'.at d).heap[ch]? = _ from hch) (by simp) hp)
   rw[qam]at hr
   have hm:1<=m:=by
    rcases hS.up with⟨_,g0,rfl,_⟩|⟨e,_⟩
    ·have:(0,0)∈partners (gs.setIfInBounds i ph) ch false:=mem_partners.2 ⟨_,by rw[qJ hj0];exact h0,by rw[offersAt_parked_recv];simp⟩;rw[hp]at this;cases this
    ·exact e
   have hR2:RMJ P S Bx ch z ok Q i (gs.setIfInBounds i (parked (core x) #[scase ch v z'] .send)) (parked (core x) #[scase ch v z'] .send) (w'.at d) t m qq :=
    ⟨Array.getElem?_setIfInBounds_self_of_lt hlti,hR.jpos,⟨a0,by rw[qJ hj0];exact h0,hS.keep fun _ _=>rfl⟩,fun k y hk hkj hy=>hR.old k y hk hkj (by rwa[qJ (Ne.symm hkj)]at hy),fun k hk=>hR.above k (by simpa using hk),hR.past,fun k op hop=>by simpa using hR.nums k op hop,hR.bx,hR.chan⟩
   obtain⟨N,gs1,sl1,t1,g0,d1,s1,tm1,qq1,r1,r2,r3,r4⟩:=RMJ.meet2 _ _ (w'.at d) sl' t m qq ql hm hR2;exact⟨N+1,gs1,sl1,t1,g0,d1,s1,tm1,qq1,by simp only[runNT,hst,hr];rw[Array.append_empty];exact r1,r2,r3,r4⟩
  ·obtain⟨k,gk,zk,shk,d',hk0,hk,hr⟩:=crowd_send_meets_some (sl:=sl') hi hcomm (show(w'.at d).heap[ch]? = _ from hch) hp (fun k n hm=>by
    obtain⟨rfl,rfl,g0,rfl,_⟩:=hpar k n hm
    exact⟨rfl,Ne.symm hj0,_,_,_,h0⟩)
   obtain⟨rfl,_,g0,rfl,hQ⟩:=hpar k 0 (mem_partners.2 ⟨_,by rw[qJ (Ne.symm hk0)];exact hk,by rw[offersAt_parked_recv];simp⟩);rw[h0]at hk;obtain⟨e1,e2,e3⟩:=qaq (qz hk);subst e2;rw[finishComm_recv,finishComm_send,qam,Array.empty_append,<-e3]at hr;refine⟨1,_,sl',_,g0,d',s,tm,qq,by simp only[runNT,hst,hr];rfl,hQ,hch,hR.four (d:=d') (s:=s) (tm:=tm) rfl (.inr rfl)⟩
 ·obtain⟨gs2,t2,d2,m2,qq2,h1,h2,h3⟩:=hR.slip hrun (d:=d) (sl':=sl') hi hx ej;obtain⟨N,gs1,sl1,t1,g0,d1,s1,tm1,qq1,r1,r2,r3,r4⟩:=ih _ (by omega) gs2 (w'.at d2) sl' _ m2 qq2 ql (fun d=>hsend d) h3;exact⟨N+1,gs1,sl1,t1,g0,d1,s1,tm1,qq1,by simp only[runNT,hst,h1];exact r1,r2,r3,r4⟩
end
end Go.Sim
end
section
namespace Go.Sim
open Go Go.Instr Go.Conc
open Go.ConcN (sumTo upd sumTo_upd upd_ne upd_same)
structure PastC (Shun:Loc->Prop) (ch j p B:Nat) (t:Trace):Prop where
 clean:∀said,¬Race said t
 known:∀i a,touchAt t i=some a->a.loc.isMemory=true->Knows t 0 i\/(Shun a.loc/\a.kind=.atomic)
 over:∀i g,t.g? i=some g->g≠0->t.counts i->(∃k,t.g? k=some 0/\HappensBefore t i k)\/(g=j/\i<=p)
 act:t.act? p=some (.close ch)
 who:t.g? p=some j
 heard:t.heard p
 hears:Deaf t 0=0
 seen:∀op∈t,op.act.low B
section
variable {Shun:Loc->Prop} {ch j p B:Nat} {t u:Trace}
theorem PastC.lt(h:PastC Shun ch j p B t):p<t.size:=lt_of_act? h.act
theorem PastC.zero(h:PastC Shun ch j p B t)(hu:∀op∈u,op.g=0)(hs:∀op∈u,∀b,op.act.touch? = some b->Shun b.loc->b.kind≠.plain)(hd:Deaf (t++u) 0=0)(hl:∀op∈u,op.act.low B):PastC Shun ch j p B (t++u):=by
 refine⟨fun said=>noRace_append (h.clean said) hu fun i a ha op hop b hb hc=>?_,fun i a ha hm=>?_,fun i g hg hne hc=>?_,by rw[act?_old h.lt];exact h.act,by rw[g?_old h.lt];exact h.who,(heard_old h.lt).2 h.heard,hd,seen_app h.seen hl⟩
 ·obtain⟨c1,c2,c3,c4⟩:=hc;rcases h.known i a ha c2 with hk|⟨hsa,hka⟩
  ·exact hk
  ·have hkb:=hs op hop b hb (c1▸hsa);rw[hka]at c4;rcases c4 with x|x|⟨_,x,_⟩
   ·cases x
   ·exact absurd x hkb
   ·cases x
 ·rcases zN ha with⟨_,h1⟩|⟨op,h1,h2,h3⟩
  ·exact(h.known i a h1 hm).imp (·.app u) id
  ·have:=knows_own h2;rw[hu op h1]at this;exact .inl this
 ·rcases xq hc with⟨h1,h2⟩|⟨op,a,h1,h2,h3⟩
  ·exact jq (h.over i g (by rw[<-g?_old (u:=u) h1];exact hg) hne h2)
  ·rw[gof h2,hu op h1]at hg;exact absurd (qz hg).symm hne
theorem PastC.quiet{g:Nat}(h:PastC Shun ch j p B t)(hu:∀op∈u,op.g=g)(hn:∀op∈u,op.act.touch? = none)(hd:Deaf (t++u) 0=0)(hl:∀op∈u,op.act.low B):PastC Shun ch j p B (t++u):=by
 refine⟨fun said=>noRace_append (h.clean said) hu fun i a _ op hop b hb _=>(by rw[hn op hop]at hb;cases hb),fun i a ha hm=>?_,fun i g hg hne hc=>?_,by rw[act?_old h.lt];exact h.act,by rw[g?_old h.lt];exact h.who,(heard_old h.lt).2 h.heard,hd,seen_app h.seen hl⟩
 ·rcases zN ha with⟨_,h1⟩|⟨op,h1,h2,h3⟩
  ·exact(h.known i a h1 hm).imp (·.app u) id
  ·rw[hn op h1]at h3;cases h3
 ·rcases xq hc with⟨h1,h2⟩|⟨op,a,h1,h2,h3⟩
  ·exact jq (h.over i g (by rw[<-g?_old (u:=u) h1];exact hg) hne h2)
  ·rw[hn op h1]at h3;cases h3
theorem PastC.done(h:PastC Shun ch j p B t)(hch:ch<B){y:MemOp}(hy:y.g=0/\y.act=.recvClosed ch):Past Shun B (t ++ #[y]):=by
 have hz:(t ++ #[y])[t.size]? = some y:=by simp
 have hzg:(t ++ #[y]).g? t.size=some 0:=by rw[gof hz,hy.1]
 have hny:∀op∈#[y],op.act.touch? = none:=fun op hop=>by simp at hop;rw[hop,hy.2];rfl
 have hst:∀op∈#[y],op.act≠.mark .disable/\op.act≠.mark .enable:=fun op hop=>by simp at hop;rw[hop,hy.2];simp
 have pz:HappensBefore (t ++ #[y]) p t.size:=.single (.inr ⟨.closed (c:=ch) (by rw[act?_old h.lt];exact h.act) (by rw[act?_of hz,hy.2]),(heard_old h.lt).2 h.heard,⟨0,hzg,by rw[deaf_old ql];exact h.hears⟩⟩);refine⟨fun said=>noRace_appendMute (h.clean said) hny,fun i a ha hm=>?_,fun i g hg hne hc=>?_,(Go.ConcN.Deaf_still t 0 _ hst).trans h.hears,seen_app h.seen fun op hop=>(by simp at hop;rw[hop,hy.2];exact hch)⟩
 ·rcases zN ha with⟨_,h1⟩|⟨op,h1,h2,h3⟩
  ·exact(h.known i a h1 hm).imp (·.app _) id
  ·rw[hny op h1]at h3;cases h3
 ·rcases xq hc with⟨h1,h2⟩|⟨op,a,h1,h2,h3⟩
  ·have hg':t.g? i=some g:=(by rw[<-g?_old (u:=#[y]) h1];exact hg);rcases jq (u:=#[y]) (h.over i g hg' hne h2)with h4|⟨rfl,h5⟩
   ·exact h4
   ·refine⟨t.size,hzg,?_⟩;rcases Nat.lt_or_ge i p with hlt|hge
    ·obtain⟨zi,hzi,hzig⟩:=Option.map_eq_some_iff.1 hg';obtain⟨zp,hzp,hzpg⟩:=Option.map_eq_some_iff.1 h.who;exact(hb_app _ (hb_po hlt hzi hzp (hzig.trans hzpg.symm))).trans pz
    ·obtain rfl:i=p:=(by omega);exact pz
  ·rw[hny op h1]at h3;cases h3
theorem PastC.of(h:Past Shun B t)(hj:j≠0)(hdj:Deaf t j=0)(hch:ch<B)(hsh:Shun (.obj ch))(hw:∀i a,touchAt t i=some a->a.loc=.obj ch->a.write=true->Knows t j i\/a.kind=.atomic){fn:FuncId}{ps:String}:PastC Shun ch j (t.size+1) B (t ++ #[({ g:=j,fn:=fn,pos:=ps,act:=.access ⟨.obj ch,false,true⟩ }:MemOp),{ g:=j,fn:=fn,pos:=ps,act:=.close ch }]):=by
 let u:Trace:=#[({ g:=j,fn:=fn,pos:=ps,act:=.access ⟨.obj ch,false,true⟩ }:MemOp),{ g:=j,fn:=fn,pos:=ps,act:=.close ch }]
 have hg:∀op∈u,op.g=j:=fun op hop=>by simp[u]at hop;rcases hop with rfl|rfl<;>rfl
 have ht:∀op∈u,∀b,op.act.touch? = some b->b=⟨.obj ch,false,.atomic⟩:=fun op hop b hb=>by
  simp[u]at hop;rcases hop with rfl|rfl
  ·simp[MemAct.touch?]at hb;exact hb.symm
  ·cases hb
 have hst:∀op∈u,op.act≠.mark .disable/\op.act≠.mark .enable:=fun op hop=>by simp[u]at hop;rcases hop with rfl|rfl<;>simp
 have hy:(t++u)[t.size+1]? = some { g:=j,fn:=fn,pos:=ps,act:=.close ch }:=by simp[u]
 refine⟨fun said=>noRace_append (h.clean said) hg fun i a ha op hop b hb hc=>?_,fun i a ha hm=>?_,fun i g hgi hne hc=>?_,by rw[act?_of hy],by rw[gof hy],⟨j,by rw[gof hy],by rw[Jf hst];exact hdj⟩,(Go.ConcN.Deaf_still t 0 _ hst).trans h.hears,seen_app h.seen fun op hop=>?_⟩
 ·obtain rfl:=ht op hop b hb;obtain⟨c1,c2,c3,c4⟩:=hc;rcases hw i a ha c1 (c3.resolve_right (by simp))with hk|hk
  ·exact hk
  ·rw[hk]at c4;rcases c4 with x|x|⟨_,x,_⟩<;>cases x
 ·rcases zN (u:=u) ha with⟨_,h1⟩|⟨op,h1,h2,h3⟩
  ·exact(h.known i a h1 hm).imp (·.app _) id
  ·obtain rfl:=ht op h1 a h3;exact .inr ⟨hsh,rfl⟩
 ·rcases xq (u:=u) hc with⟨h1,h2⟩|⟨op,a,h1,h2,h3⟩
  ·exact(jq (u:=u) (p:=False) (.inl (h.over i g (by rw[<-g?_old (u:=u) h1];exact hgi) hne h2))).imp id False.elim
  ·have hlt:=lt_size_of_getElem? h2;have e:(t++u).size=t.size+2:=(by simp[u]);rw[gof h2,hg op h1]at hgi;exact .inr ⟨(qz hgi).symm,by omega⟩
 ·simp at hop;rcases hop with rfl|rfl<;>exact hch
end
section
variable (P:Program) (Bx:Nat->Prop) (ch:Nat) (z:Value) (ok:Bool) (Q:Goroutine->World->Prop)
inductive Late:Nat->Goroutine->World->Prop
 | ready {a g0:Goroutine} {w:World}:a.status=.running->(∀w1,yh Bx w w1->stepG P true a w1=.comm (core g0) #[rcase ch z] true (.recv ok) w1 #[]/\Q g0 w1)->Late 0 a w
 | step {n:Nat} {a:Goroutine} {w:World} (f:World->Goroutine) (dd:World->Nat) (ee:World->Array Event):a.status=.running->(∀w1,yh Bx w w1->stepG P true a w1=.go (f w1) (w1.at (dd w1)) (ee w1)/\∀e∈ee w1,EvB Bx e)->(∀w1,yh Bx w w1->Late n (f w1) w1)->Late (n+1) a w
end
section
variable {P:Program} {S Bx:Nat->Prop} {ch:Nat} {z:Value} {ok:Bool} {Q:Goroutine->World->Prop} {j p:Nat}
theorem Late.keep{n:Nat}{a:Goroutine}{w w1:World}(h:Late P Bx ch z ok Q n a w)(k:yh Bx w w1):Late P Bx ch z ok Q n a w1:=by
 cases h with
 | ready hr hq=>exact .ready hr fun w2 k2=>hq w2 (k.trans k2)
 | step f dd ee hr hs hn=>exact .step f dd ee hr (fun w2 k2=>hs w2 (k.trans k2)) fun w2 k2=>hn w2 (k.trans k2)
theorem Late.running{n:Nat}{a:Goroutine}{w:World}(h:Late P Bx ch z ok Q n a w):a.status=.running:=by
 cases h with
 | ready hr _=>exact hr
 | step _ _ _ hr _ _=>exact hr
theorem Stand.late{n:Nat}{a:Goroutine}{w:World}(h:Stand P Bx ch z ok Q (n+1) a w):Late P Bx ch z ok Q n a w:=by
 induction n generalizing a w with
 | zero =>
   cases h with
   | ready hr hq=>exact .ready hr fun w1 k1=>⟨(hq w1 k1).2,(hq w1 k1).1⟩
 | succ n ih =>
   cases h with
   | step f dd ee hr hs hn=>exact .step f dd ee hr hs fun w1 k1=>ih (hn w1 k1)
theorem Late.woken{g0:Goroutine}{w:World}(hq:∀w1,yh Bx w w1->stepG P true g0 w1=.comm (core g0) #[rcase ch z] true (.recv ok) w1 #[]/\Q g0 w1):Late P Bx ch z ok Q 0 { parked (core g0) #[rcase ch z] (.recv ok)with status:=.running } w :=
 .ready (g0:=g0) rfl fun w1 k1=>⟨by rw[stepG_tries,<-(hq w1 k1).1];exact stepG_same rfl rfl rfl w1,(hq w1 k1).2⟩
structure RMD (P:Program) (S Bx:Nat->Prop) (ch:Nat) (z:Value) (ok:Bool) (Q:Goroutine->World->Prop) (j p:Nat) (gs:Array Goroutine) (w':World) (t:Trace) (n:Nat) (qq:Nat->Nat):Prop where
 zero:∃a0,gs[0]? = some a0/\Late P Bx ch z ok Q n a0 w'
 old:Leavers P t gs qq
 past:PastC (zR S) ch j p w'.heap.size t
 nums:∀(i:Nat) (op:MemOp),t[i]? = some op->op.g<gs.size
 chan:ch<w'.heap.size/\∃s r tm,w'.heap[ch]? = some (.chan 0 #[] true s r tm)
 bx:∀b,Bx b->b<w'.heap.size/\¬S b
theorem RMD.done:∀(M:Nat) (gs:Array Goroutine) (w':World) (sl:Option (Nat×Nat)) (t:Trace) (n:Nat) (qq:Nat->Nat),n+sumTo gs.size qq<=M->RMD P S Bx ch z ok Q j p gs w' t n qq ->
 ∃(N:Nat) (gs1:Array Goroutine) (sl1:Option (Nat×Nat)) (t1:Trace) (g0:Goroutine) (d:Nat),runNT P N (crowd gs w' sl) t=(.next (crowd gs1 (w'.at d) sl1),t1)/\(∀w1,yh Bx w' w1->Q g0 w1)/\RM P S gs1 (Conc.served (core g0) (recvd ok z false)) (w'.at d) t1:=by
 intro M
 induction M using Nat.strongRecOn with
 | _ M ih =>
 intro gs w' sl t n qq hM hR;obtain⟨a0,h0,hS⟩:=hR.zero;have hr0:=hS.running;have hlt0:0<gs.size:=(qy h0).1;obtain⟨hcl,s,r,tm,hch⟩:=hR.chan
 have haw:∀x∈gs,Conc.awake x:=by
  intro x hx;obtain⟨i,hi,rfl⟩:=Array.mem_iff_getElem.1 hx;rcases Nat.eq_zero_or_pos i with rfl|hpos
  ·have:gs[0]=a0:=(by simpa[Array.getElem?_eq_getElem hi]using h0);rw[this];exact awake_of (.inl hr0)
  ·exact awake_of ((hR.old.old i _ hpos (Array.getElem?_eq_getElem hi)).status.elim .inl fun x=>.inr (.inr x))
 obtain⟨i,x,d,sl',hi,hx,hst⟩:=crowd_pick (P:=P) (w:=w') (sl:=sl) haw ⟨0,a0,h0,hr0⟩;rcases Nat.eq_zero_or_pos i with rfl|hpos
 ·obtain rfl:x=a0:=by rw[h0]at hi;exact(qz hi).symm
  have hkd:yh Bx w' (w'.at d):=fun _ _=>rfl
  cases hS with
  | @ready _ g0 _ hr hq =>
    obtain⟨hcomm,_⟩:=hq (w'.at d) hkd
    have hp:partners (gs.setIfInBounds 0 ph) ch true=[]:=by
     refine List.eq_nil_iff_forall_not_mem.2 fun⟨k,n⟩ hm=>?_;obtain⟨y,hy,ho⟩:=mem_partners.1 hm;rcases getElem?_stand gs 0 k y hy with⟨_,rfl⟩|⟨hk,hy⟩
     ·rw[offersAt_ph]at ho;cases ho
     ·have:y.status≠.blocked:=(by rcases(hR.old.old k y (by omega) hy).status with e|e<;>rw[e]<;>simp);rw[offersAt_of_not_blocked this]at ho;cases ho
    have hr1:=crowd_recv_closed (sl:=sl') hi (show stepG P (0==0) x (w'.at d)=_ from hcomm) (show(w'.at d).heap[ch]? = _ from hch) hp;rw[finishComm_recv,qam,Array.empty_append]at hr1;refine⟨1,_,sl',_,g0,d,by simp only[runNT,hst,hr1];rfl,fun w1 k1=>(hq w1 k1).2,?_⟩;refine⟨Array.getElem?_setIfInBounds_self_of_lt hlt0,⟨qq,fun k y hk hy=>?_,fun k hk=>?_⟩,hR.past.done hcl ⟨rfl,rfl⟩,zu hR.nums (by simp) fun op hop=>by simp at hop;rw[hop];simpa using hlt0⟩
    ·rw[qJ (by omega)]at hy;rw[Deaf_other t (g':=0) (by omega) _ (fun op hop=>by simp at hop;rw[hop])];exact hR.old.old k y hk hy
    ·rw[Deaf_other t (g':=0) (by simp at hk;omega) _ (fun op hop=>by simp at hop;rw[hop])];exact hR.old.above k (by simpa using hk)
  | @step n' _ _ f dd ee hr hs hn =>
    obtain⟨hgo,hev⟩:=hs (w'.at d) hkd;have hst':=hn (w'.at d) hkd
    generalize f (w'.at d)=a' at *
    generalize dd (w'.at d)=d' at *
    generalize ee (w'.at d)=es at *
    have hrunT:=runT_crowd_go (P:=P) (sl:=sl') (i:=0) hi (show stepG P (0==0) x (w'.at d)=_ from hgo);have hown:∀op∈MemOp.ofEvents 0 x.frame.fn x.frame.place es,op.g=0:=fun op hop=>by obtain⟨_,_,rfl⟩:=Go.Conc.mem_ofEvents hop;rfl
    have hR2:RMD P S Bx ch z ok Q j p ((gs.map (woken P x a' ((w'.at d).at d'))).setIfInBounds 0 a') (w'.at d') (t++MemOp.ofEvents 0 x.frame.fn x.frame.place es) n' qq:=by
     refine⟨⟨a',Array.getElem?_setIfInBounds_self_of_lt (by simpa using hlt0),hst'.keep fun _ _=>rfl⟩,⟨fun k y hk hy=>?_,fun k hk=>?_⟩,?_,zu hR.nums (by simp) (fun op hop=>by rw[hown op hop];simpa using hlt0),hR.chan,hR.bx⟩
     ·rw[qJ (by omega),Array.getElem?_map]at hy;obtain⟨v,hv,rfl⟩:=Option.map_eq_some_iff.1 hy;have hq:=hR.old.old k v hk hv;rw[woken_quitsD hq,Deaf_other t (g':=0) (by omega) _ hown];exact hq
     ·rw[Deaf_other t (g':=0) (by simp at hk;omega) _ hown];exact hR.old.above k (by simpa using hk)
     ·refine hR.past.zero hown (fun op hop b hb hsh=>?_) ?_ (fun op hop=>?_)
      ·obtain⟨ev,hev',rfl⟩:=Go.Conc.mem_ofEvents hop;obtain⟨hb1,_⟩:=(hev ev hev').1 b hb;exfalso
       cases hl:b.loc with
       | cell ad=>rw[hl]at hb1 hsh;exact(hR.bx _ hb1).2 hsh
       | obj r=>rw[hl]at hb1 hsh;exact(hR.bx _ hb1).2 hsh
       | _=>rw[hl]at hb1;exact hb1
      ·rw[Deaf_own,deafBehind_still fun ev hev'=>⟨(hev ev hev').2.1,(hev ev hev').2.2.1⟩];exact hR.past.hears
      ·obtain⟨ev,hev',rfl⟩:=Go.Conc.mem_ofEvents hop;exact(hev ev hev').2.2.2 _ fun b hb=>(hR.bx b hb).1
    obtain⟨N,gs1,sl1,t1,g0,d1,r1,r2,r3⟩:=ih (n'+sumTo gs.size qq) (by omega) _ (w'.at d') sl' _ n' qq (by simp) hR2;exact⟨N+1,gs1,sl1,t1,g0,d1,by simp only[runNT,hst,hrunT];exact r1,r2,r3⟩
 ·have hq1:=hR.old.old i x hpos hi;have hi0:(i==0)=false:=by simp;omega
  have hlt:i<gs.size:=(qy hi).1
  cases hqi:qq i with
  | zero=>rw[hqi]at hq1;rw[hq1.1]at hx;cases hx
  | succ k =>
    rw[hqi]at hq1;rcases hq1 with⟨hf,_⟩|⟨_,g',es,hm,hstp,hq'⟩
    ·rw[hf]at hx;cases hx
    have hrunT:=runT_crowd_go (P:=P) (sl:=sl') (i:=i) hi (by rw[hi0];exact hstp (w'.at d))
    have hsum:sumTo gs.size (upd qq i k)+(k+1)=sumTo gs.size qq+k:=by
     have:=sumTo_upd qq k id hlt;simpa[hqi]using this
    have hown:∀op∈MemOp.ofEvents i x.frame.fn x.frame.place es,op.g=i:=fun op hop=>by obtain⟨_,_,rfl⟩:=Go.Conc.mem_ofEvents hop;rfl
    have hR2:RMD P S Bx ch z ok Q j p ((gs.map (woken P x g' (w'.at d))).setIfInBounds i g') (w'.at d) (t++MemOp.ofEvents i x.frame.fn x.frame.place es) n (upd qq i k):=by
     refine⟨⟨a0,?_,hS.keep fun _ _=>rfl⟩,⟨fun k' y hk hy=>?_,fun k' hk=>?_⟩,?_,zu hR.nums (by simp) (fun op hop=>by rw[hown op hop];simpa using hlt),hR.chan,hR.bx⟩
     ·rw[qJ (by omega),Array.getElem?_map,h0,Option.map_some,woken_run hr0]
     ·by_cases hji:i=k'
      ·subst hji;rw[Array.getElem?_setIfInBounds_self_of_lt (by simpa using hlt)]at hy;obtain rfl:=qz hy;rw[upd_same,Deaf_own];exact hq'
      ·rw[qJ hji,Array.getElem?_map]at hy;obtain⟨v,hv,rfl⟩:=Option.map_eq_some_iff.1 hy;have hqj:=hR.old.old k' v hk hv;rw[woken_quitsD hqj,upd_ne qq k (Ne.symm hji),Deaf_other t hji _ hown];exact hqj
     ·rw[Deaf_other t (g':=i) (by simp at hk;omega) _ hown];exact hR.old.above k' (by simpa using hk)
     ·refine hR.past.quiet hown (fun op hop=>?_) ?_ (fun op hop=>?_)
      ·obtain⟨ev,hev,rfl⟩:=Go.Conc.mem_ofEvents hop;exact touch_mute (hm ev hev)
      ·rw[Deaf_other t (by omega) _ hown];exact hR.past.hears
      ·obtain⟨ev,hev,rfl⟩:=Go.Conc.mem_ofEvents hop;exact low_mute (hm ev hev) _
    obtain⟨N,gs1,sl1,t1,g0,d1,r1,r2,r3⟩:=ih (n+sumTo gs.size (upd qq i k)) (by omega) _ (w'.at d) sl' _ n (upd qq i k) (by simp) hR2;exact⟨N+1,gs1,sl1,t1,g0,d1,by simp only[runNT,hst,hrunT];exact r1,r2,r3⟩
inductive Closing (P:Program) (ch:Nat):Nat->Goroutine->Prop
 | close {g:Goroutine}:g.status=.running->mayWake P g=true->(∀(w1:World) (s:Nat) (tm:Bool),w1.heap[ch]? = some (.chan 0 #[] false s s tm)->∃g' q,stepG P false g w1=.go g' (w1.shut ch s s tm) #[⟨.obj ch,false,true⟩,⟨.obj ch,true,true⟩]/\QuitsD P q 0 g')->Closing P ch 0 g
 | step {n:Nat} {g:Goroutine} (f:World->Goroutine) (dd:World->Nat) (ee:World->Array Event):g.status=.running->(∀w1,stepG P false g w1=.go (f w1) (w1.at (dd w1)) (ee w1)/\∀e∈ee w1,Event.mute e=true/\e.loc≠.mark .disable/\e.loc≠.mark .enable)->(∀w1,Closing P ch n (f w1))->Closing P ch (n+1) g
theorem Closing.running{n:Nat}{g:Goroutine}(h:Closing P ch n g):g.status=.running:=by
 cases h with
 | close h _ _=>exact h
 | step _ _ _ h _ _=>exact h
theorem Late.map{Q':Goroutine->World->Prop}(hq:∀g w,Q' g w->Q g w){n:Nat}{a:Goroutine}{w:World}(h:Late P Bx ch z ok Q' n a w):Late P Bx ch z ok Q n a w:=by
 induction h with
 | ready hr h=>exact .ready hr fun w1 k1=>⟨(h w1 k1).1,hq _ _ (h w1 k1).2⟩
 | step f dd ee hr hs _ ih=>exact .step f dd ee hr hs fun w1 k1=>ih w1 k1
theorem Past.wide{Shun Shun':Loc->Prop}{B:Nat}{t:Trace}(h:Past Shun B t)(hs:∀l,Shun l->Shun' l):Past Shun' B t:=⟨h.clean,fun i a ha hm=>(h.known i a ha hm).imp id fun⟨x,y⟩=>⟨hs _ x,y⟩,h.over,h.hears,h.seen⟩
theorem evB_evL{e:Event}{B:Nat}(h:EvB Bx e)(hb:∀b,Bx b->b<B/\¬S b):EvL (zR S) B e:=by
 refine⟨fun x hx hsh=>?_,h.2.1,h.2.2.1,h.2.2.2 B fun b hB=>(hb b hB).1⟩;obtain⟨hb1,_⟩:=h.1 x hx;exfalso
 cases hl:x.loc with
 | cell ad=>rw[hl]at hb1 hsh;exact(hb _ hb1).2 hsh
 | obj r=>rw[hl]at hb1 hsh;exact(hb _ hb1).2 hsh
 | _=>rw[hl]at hb1;exact hb1
theorem RMM.shut:∀(M:Nat) (gs:Array Goroutine) (a0 ak:Goroutine) (w':World) (sl:Option (Nat×Nat)) (t:Trace) (n m:Nat) (qq:Nat->Nat),n+m+sumTo gs.size qq<=M->RMM P S ch j gs a0 ak w' t qq->Stand P Bx ch z ok (fun g w=>stepG P true g w=.comm (core g) #[rcase ch z] true (.recv ok) w #[]/\Q g w) m a0 w'->Closing P ch n ak->(∀b,Bx b->b<w'.heap.size/\¬S b/\b≠ch) ->
 ∃(N:Nat) (gs1:Array Goroutine) (sl1:Option (Nat×Nat)) (t1:Trace) (d s:Nat) (tm:Bool) (p m1:Nat) (qq1:Nat->Nat),runNT P N (crowd gs w' sl) t=(.next (crowd gs1 ((w'.at d).shut ch s s tm) sl1),t1)/\w'.heap[ch]? = some (.chan 0 #[] false s s tm)/\RMD P (fun c=>S c\/c=ch) Bx ch z ok Q j p gs1 ((w'.at d).shut ch s s tm) t1 m1 qq1:=by
 intro M
 induction M using Nat.strongRecOn with
 | _ M ih =>
 intro gs a0 ak w' sl t n m qq hM hR hS hC hbx;have hj:=hR.jpos;have hj0:j≠0:=by omega
 have h0:=hR.zero;have hlt0:0<gs.size:=(qy h0).1;have hltj:j<gs.size:=(qy hR.here).1;have hrj:=hC.running;obtain⟨hcl,s,tm,hch⟩:=hR.chan
 have haw:∀x∈gs,Conc.awake x:=by
  intro x hx;obtain⟨i,hi,rfl⟩:=Array.mem_iff_getElem.1 hx;by_cases e0:i=0
  ·subst e0;have:gs[0]=a0:=(by simpa[Array.getElem?_eq_getElem hi]using h0);rw[this];exact hS.awake
  ·by_cases ej:i=j
   ·subst ej;have:gs[i]=ak:=(by simpa[Array.getElem?_eq_getElem hi]using hR.here);rw[this];exact awake_of (.inl hrj)
   ·exact awake_of ((hR.old i _ (by omega) ej (Array.getElem?_eq_getElem hi)).status.elim .inl fun x=>.inr (.inr x))
 obtain⟨i,x,d,sl',hi,hx,hst⟩:=crowd_pick (P:=P) (w:=w') (sl:=sl) haw ⟨j,ak,hR.here,hrj⟩;have hlt:i<gs.size:=(qy hi).1;by_cases ej:i=j
 ·subst ej;obtain rfl:x=ak:=by rw[hR.here]at hi;exact(qz hi).symm
  have hi0:(i==0)=false:=by simp;omega
  cases hC with
  | close hr hmw hcs =>
    obtain⟨g',q,hgo,hq⟩:=hcs (w'.at d) s tm hch;have hrunT:=runT_crowd_go (P:=P) (sl:=sl') (i:=i) hi (by rw[hi0];exact hgo);have eu:MemOp.ofEvents i x.frame.fn x.frame.place #[⟨.obj ch,false,true⟩,⟨.obj ch,true,true⟩]=#[{ g:=i,fn:=x.frame.fn,pos:=x.frame.place,act:=.access ⟨.obj ch,false,true⟩ },{ g:=i,fn:=x.frame.fn,pos:=x.frame.place,act:=.close ch }]:=(by rw[ofEvents_eq];simp[MemAct.ofEvent]);rw[eu]at hrunT;have hsz:((w'.at d).shut ch s s tm).heap.size=w'.heap.size:=by show(w'.heap.setIfInBounds ch _).size=_;simp
    have hch':((w'.at d).shut ch s s tm).heap[ch]? = some (.chan 0 #[] true s s tm):=by
     show(w'.heap.setIfInBounds ch _)[ch]? = _;simp[hcl]
    have hkeep:yh Bx w' ((w'.at d).shut ch s s tm):=fun b hb=>by
     show(w'.heap.setIfInBounds ch _)[b]? = _;rw[qJ (Ne.symm (hbx b hb).2.2)]
    have hwk:∀y:Goroutine,woken P x g' ((w'.at d).shut ch s s tm) y=y.again ((w'.at d).shut ch s s tm):=fun y=>by
     unfold woken;rw[if_pos];rcases hq.status with e|e<;>rw[hmw,e]<;>rfl
    have hown:∀op∈(#[({ g:=i,fn:=x.frame.fn,pos:=x.frame.place,act:=.access ⟨.obj ch,false,true⟩ }:MemOp),{ g:=i,fn:=x.frame.fn,pos:=x.frame.place,act:=.close ch }]:Trace),op.g=i:=fun op hop=>(by simp at hop;rcases hop with rfl|rfl<;>rfl);have hstl:∀op∈(#[({ g:=i,fn:=x.frame.fn,pos:=x.frame.place,act:=.access ⟨.obj ch,false,true⟩ }:MemOp),{ g:=i,fn:=x.frame.fn,pos:=x.frame.place,act:=.close ch }]:Trace),op.act≠.mark .disable/\op.act≠.mark .enable:=fun op hop=>by simp at hop;rcases hop with rfl|rfl<;>simp
    obtain⟨m1,b0,hb0,hL0⟩:∃m1 b0,woken P x g' ((w'.at d).shut ch s s tm) a0=b0/\Late P Bx ch z ok Q m1 b0 ((w'.at d).shut ch s s tm):=by
     rcases hS.up with⟨_,g0,rfl,hq0⟩|⟨hm,hr0⟩
     ·exact⟨0,_,by rw[hwk,again_recv_closed hch'],Late.woken fun w1 k1=>hq0 w1 (hkeep.trans k1)⟩
     ·obtain⟨m',rfl⟩:∃m',m=m'+1:=⟨m-1,by omega⟩;refine⟨m',a0,woken_run hr0,?_⟩;exact(hS.late.map fun _ _ h=>h.2).keep hkeep
    refine⟨1,_,sl',_,d,s,tm,t.size+1,m1,upd qq i q,by simp only[runNT,hst,hrunT];rfl,hch,⟨b0,?_,hL0⟩,⟨fun k y hk hy=>?_,fun k hk=>?_⟩,?_,zu hR.nums (by simp) (fun op hop=>by rw[hown op hop];simpa using hlt),⟨by rw[hsz];exact hcl,s,s,tm,hch'⟩,fun b hb=>⟨by rw[hsz];exact(hbx b hb).1,fun h=>h.elim (hbx b hb).2.1 (hbx b hb).2.2⟩⟩
    ·rw[qJ hj0,Array.getElem?_map,h0,Option.map_some,hb0]
    ·rw[Go.ConcN.Deaf_still t k _ hstl];by_cases hji:i=k
     ·subst hji;rw[Array.getElem?_setIfInBounds_self_of_lt (by simpa using hlt)]at hy;obtain rfl:=qz hy;rw[upd_same,hR.hears];exact hq
     ·rw[qJ hji,Array.getElem?_map]at hy;obtain⟨v,hv,rfl⟩:=Option.map_eq_some_iff.1 hy;have hqj:=hR.old k v hk (Ne.symm hji) hv;rw[woken_quitsD hqj,upd_ne qq q (Ne.symm hji)];exact hqj
    ·rw[Go.ConcN.Deaf_still t k _ hstl];exact hR.above k (by simpa using hk)
    ·rw[hsz]
     exact PastC.of (Go.Sim.Past.wide hR.past fun l hl=>by
      cases l with
      | cell ad=>exact .inl hl
      | obj r=>exact .inl hl
      | _=>exact hl.elim) hj0 hR.hears hcl (.inr rfl) hR.chk
  | @step n' _ f dd ee hr hs hn =>
    obtain⟨hgo,hm⟩:=hs (w'.at d);have hC':=hn (w'.at d)
    generalize f (w'.at d)=a' at *
    generalize dd (w'.at d)=d' at *
    generalize ee (w'.at d)=es at *
    have hrunT:=runT_crowd_go (P:=P) (sl:=sl') (i:=i) hi (by rw[hi0];exact hgo);have hown:∀op∈MemOp.ofEvents i x.frame.fn x.frame.place es,op.g=i:=fun op hop=>by obtain⟨_,_,rfl⟩:=Go.Conc.mem_ofEvents hop;rfl
    have hR2:RMM P S ch i ((gs.map (woken P x a' ((w'.at d).at d'))).setIfInBounds i a') a0 a' (w'.at d') (t++MemOp.ofEvents i x.frame.fn x.frame.place es) qq:=by
     refine⟨?_,by simp[hltj],hj,fun k y hk hkj hy=>?_,fun k hk=>?_,hR.past.mute hj0 fun e he=>(hm e he).1,?_,fun k b hb hl hw=>?_,zu hR.nums (by simp) (fun op hop=>by rw[hown op hop];simpa using hlt),hR.chan⟩
     ·rw[qJ hj0,Array.getElem?_map,h0,Option.map_some,hS.woken (show((w'.at d).at d').heap[ch]? = _ from hch)]
     ·rw[qJ (Ne.symm hkj),Array.getElem?_map]at hy;obtain⟨v,hv,rfl⟩:=Option.map_eq_some_iff.1 hy;have hq:=hR.old k v hk hkj hv;rw[woken_quitsD hq,Deaf_other t (Ne.symm hkj) _ hown];exact hq
     ·rw[Deaf_other t (g':=i) (by simp at hk;omega) _ hown];exact hR.above k (by simpa using hk)
     ·rw[Deaf_own,deafBehind_still fun ev hev'=>⟨(hm ev hev').2.1,(hm ev hev').2.2⟩];exact hR.hears
     ·rcases zN hb with⟨_,h1⟩|⟨op,h1,_,h3⟩
      ·exact(hR.chk k b h1 hl hw).imp (·.app _) id
      ·obtain⟨ev,hev,rfl⟩:=Go.Conc.mem_ofEvents h1;rw[touch_mute (hm ev hev).1]at h3;cases h3
    obtain⟨N,gs1,sl1,t1,d1,s1,tm1,p1,m1,qq1,r1,r2,r3⟩:=ih (n'+m+sumTo gs.size qq) (by omega) _ a0 a' (w'.at d') sl' _ n' m qq (by simp) hR2 (hS.keep fun _ _=>rfl) hC' hbx;exact⟨N+1,gs1,sl1,t1,d1,s1,tm1,p1,m1,qq1,by simp only[runNT,hst,hrunT];exact r1,r2,r3⟩
 ·by_cases e0:i=0
  ·subst e0;obtain rfl:x=a0:=(by rw[h0]at hi;exact(qz hi).symm);have hkd:yh Bx w' (w'.at d):=fun _ _=>rfl
   cases hS with
   | parked hq=>cases hx
   | ready hr hq =>
     obtain⟨_,hcomm⟩:=hq (w'.at d) hkd
     have hp:partners (gs.setIfInBounds 0 ph) ch true=[]:=by
      refine List.eq_nil_iff_forall_not_mem.2 fun⟨k,n⟩ hm=>?_;obtain⟨y,hy,ho⟩:=mem_partners.1 hm;rcases getElem?_stand gs 0 k y hy with⟨_,rfl⟩|⟨hk,hy⟩
      ·rw[offersAt_ph]at ho;cases ho
      ·have:y.status≠.blocked:=by
        by_cases ek:k=j
        ·subst ek;rw[hR.here]at hy;cases hy;rw[hrj];simp
        ·rcases(hR.old k y (by omega) ek hy).status with e|e<;>rw[e]<;>simp
       rw[offersAt_of_not_blocked this]at ho;cases ho
     have hr1:=crowd_waits (sl:=sl') hi (show stepG P (0==0) x (w'.at d)=_ from hcomm) (fun cc hcc=>by
      simp at hcc;subst hcc
      exact ways_recv_none (show(w'.at d).heap[ch]? = _ from hch) hp)
     rw[qam]at hr1
     have hR2:RMM P S ch j (gs.setIfInBounds 0 (parked (core x) #[rcase ch z] (.recv ok))) (parked (core x) #[rcase ch z] (.recv ok)) ak (w'.at d) t qq :=
      ⟨Array.getElem?_setIfInBounds_self_of_lt hlt,by rw[qJ (Ne.symm hj0)];exact hR.here,hj,fun k y hk hkj hy=>hR.old k y hk hkj (by rwa[qJ (by omega)]at hy),fun k hk=>hR.above k (by simpa using hk),hR.past,hR.hears,hR.chk,fun k op hop=>by simpa using hR.nums k op hop,hR.chan⟩
     obtain⟨N,gs1,sl1,t1,d1,s1,tm1,p1,m1,qq1,r1,r2,r3⟩:=ih (n+0+sumTo gs.size qq) (by omega) _ _ ak (w'.at d) sl' _ n 0 qq (by simp) hR2 (.parked fun w1 k1=>(hq w1 k1).1) hC hbx;exact⟨N+1,gs1,sl1,t1,d1,s1,tm1,p1,m1,qq1,by simp only[runNT,hst,hr1];rw[Array.append_empty];exact r1,r2,r3⟩
   | @step n' _ _ f dd ee hr hs hn =>
     obtain⟨hgo,hev⟩:=hs (w'.at d) hkd;have hst':=hn (w'.at d) hkd
     generalize f (w'.at d)=a' at *
     generalize dd (w'.at d)=d' at *
     generalize ee (w'.at d)=es at *
     have hrunT:=runT_crowd_go (P:=P) (sl:=sl') (i:=0) hi (show stepG P (0==0) x (w'.at d)=_ from hgo);have hown:∀op∈MemOp.ofEvents 0 x.frame.fn x.frame.place es,op.g=0:=fun op hop=>by obtain⟨_,_,rfl⟩:=Go.Conc.mem_ofEvents hop;rfl
     have hR2:RMM P S ch j ((gs.map (woken P x a' ((w'.at d).at d'))).setIfInBounds 0 a') a' ak (w'.at d') (t++MemOp.ofEvents 0 x.frame.fn x.frame.place es) qq:=by
      refine⟨by simp[hlt0],?_,hj,fun k y hk hkj hy=>?_,fun k hk=>?_,hR.past.own fun e he=>evB_evL (hev e he) fun b hb=>⟨(hbx b hb).1,(hbx b hb).2.1⟩,?_,fun k b hb hl hw=>?_,zu hR.nums (by simp) (fun op hop=>by rw[hown op hop];simpa using hlt),hR.chan⟩
      ·rw[qJ (Ne.symm hj0),Array.getElem?_map,hR.here,Option.map_some,woken_run hrj]
      ·rw[qJ (by omega),Array.getElem?_map]at hy;obtain⟨v,hv,rfl⟩:=Option.map_eq_some_iff.1 hy;have hq:=hR.old k v hk hkj hv;rw[woken_quitsD hq,Deaf_other t (g':=0) (by omega) _ hown];exact hq
      ·rw[Deaf_other t (g':=0) (by simp at hk;omega) _ hown];exact hR.above k (by simpa using hk)
      ·rw[Deaf_other t (Ne.symm hj0) _ hown];exact hR.hears
      ·rcases zN hb with⟨_,h1⟩|⟨op,h1,_,h3⟩
       ·exact(hR.chk k b h1 hl hw).imp (·.app _) id
       ·obtain⟨ev,hev',rfl⟩:=Go.Conc.mem_ofEvents h1;rw[((hev ev hev').1 b h3).2]at hw;cases hw
     obtain⟨N,gs1,sl1,t1,d1,s1,tm1,p1,m1,qq1,r1,r2,r3⟩:=ih (n+(n'+1)+sumTo gs.size qq) (by omega) _ a' ak (w'.at d') sl' _ n (n'+1) qq (by simp) hR2 (hst'.keep fun _ _=>rfl) hC hbx;exact⟨N+1,gs1,sl1,t1,d1,s1,tm1,p1,m1,qq1,by simp only[runNT,hst,hrunT];exact r1,r2,r3⟩
  ·have hq1:=hR.old i x (by omega) ej hi;have hi0:(i==0)=false:=by simp;omega
   cases hqi:qq i with
   | zero=>rw[hqi]at hq1;rw[hq1.1]at hx;cases hx
   | succ k =>
     rw[hqi]at hq1;rcases hq1 with⟨hf,_⟩|⟨_,g',es,hm,hstp,hq'⟩
     ·rw[hf]at hx;cases hx
     have hrunT:=runT_crowd_go (P:=P) (sl:=sl') (i:=i) hi (by rw[hi0];exact hstp (w'.at d))
     have hsum:sumTo gs.size (upd qq i k)+(k+1)=sumTo gs.size qq+k:=by
      have:=sumTo_upd qq k id hlt;simpa[hqi]using this
     have hown:∀op∈MemOp.ofEvents i x.frame.fn x.frame.place es,op.g=i:=fun op hop=>by obtain⟨_,_,rfl⟩:=Go.Conc.mem_ofEvents hop;rfl
     have hR2:RMM P S ch j ((gs.map (woken P x g' (w'.at d))).setIfInBounds i g') a0 ak (w'.at d) (t++MemOp.ofEvents i x.frame.fn x.frame.place es) (upd qq i k):=by
      refine⟨?_,?_,hj,fun k' y hk hkj hy=>?_,fun k' hk=>?_,hR.past.mute e0 hm,?_,fun k' b hb hl hw=>?_,zu hR.nums (by simp) (fun op hop=>by rw[hown op hop];simpa using hlt),hR.chan⟩
      ·rw[qJ e0,Array.getElem?_map,h0,Option.map_some,hS.woken (show(w'.at d).heap[ch]? = _ from hch)]
      ·rw[qJ ej,Array.getElem?_map,hR.here,Option.map_some,woken_run hrj]
      ·by_cases hji:i=k'
       ·subst hji;rw[Array.getElem?_setIfInBounds_self_of_lt (by simpa using hlt)]at hy;obtain rfl:=qz hy;rw[upd_same,Deaf_own];exact hq'
       ·rw[qJ hji,Array.getElem?_map]at hy;obtain⟨v,hv,rfl⟩:=Option.map_eq_some_iff.1 hy;have hqj:=hR.old k' v hk hkj hv;rw[woken_quitsD hqj,upd_ne qq k (Ne.symm hji),Deaf_other t hji _ hown];exact hqj
      ·rw[Deaf_other t (g':=i) (by simp at hk;omega) _ hown];exact hR.above k' (by simpa using hk)
      ·rw[Deaf_other t ej _ hown];exact hR.hears
      ·rcases zN hb with⟨_,h1⟩|⟨op,h1,_,h3⟩
       ·exact(hR.chk k' b h1 hl hw).imp (·.app _) id
       ·obtain⟨ev,hev,rfl⟩:=Go.Conc.mem_ofEvents h1;rw[touch_mute (hm ev hev)]at h3;cases h3
     obtain⟨N,gs1,sl1,t1,d1,s1,tm1,p1,m1,qq1,r1,r2,r3⟩:=ih (n+m+sumTo gs.size (upd qq i k)) (by omega) _ a0 ak (w'.at d) sl' _ n m (upd qq i k) (by simp) hR2 (hS.keep fun _ _=>rfl) hC hbx;exact⟨N+1,gs1,sl1,t1,d1,s1,tm1,p1,m1,qq1,by simp only[runNT,hst,hrunT];exact r1,r2,r3⟩
end
end Go.Sim
end
section
namespace Go.Proofs.Tryz
open Go Go.Conc Go.Sim Go.RowKit
open Go.ConcN (upd upd_ne upd_same)
def tb:Frame:=base 71
theorem jD:tb.kind≠.early:=qea _
theorem qdy(xs:Array Value):Frame.enter Tryz.prog 71 xs .normal=tb.at ⟨fT 18 (qaQ 18 xs),[]⟩ [.code Yl]:=qcc xs ZH (by kernel_rfl) (by kernel_rfl)
abbrev ptr(b:Nat):Value:=.pointer (some ⟨b,0,none⟩)
noncomputable def tR3:Code:=.seq (.region 3 tO3 false) (.seq (.seq (.region 4 tO4 false) (.block 0 (.loop tL))) (.seq (.region 7 tO7 false) .ret))
noncomputable def tR7:Code:=.seq (.region 7 tO7 false) .ret
structure AtGo (w w2:World) (x0 x1 x2 x3:Value):Prop where
 size:w2.heap.size=w.heap.size+6
 low:∀b,b<w.heap.size+4->w2.heap[b]? = (boxes w x0 x1 x2 x3).heap[b]?
 ch:w2.heap[w.heap.size+4]? = some (.chan 0 #[] false 0 0 false)
 cb:w2.heap[w.heap.size+5]? = some (.cells #[.chan (some (w.heap.size+4))] 135 (0,0))
 rest:w2.tape=w.tape/\w2.os=w.os/\w2.output=w.output
section
variable {S Bx:Nat->Prop} {w:World} {cs:List Frame} {v:Nat->Value} {n:Nat}
def qaf(cb b0:Nat):Value:=.func (.func 104) #[] #[ptr cb,ptr b0,ptr (b0+1),ptr (b0+2),ptr (b0+3)]
theorem qeX{ev:Operand->Value}{cb b0:Nat}(h9:ev (.tmp 9)=ptr cb)(h4:ev (.tmp 4)=ptr b0)(h5:ev (.tmp 5)=ptr (b0+1))(h6:ev (.tmp 6)=ptr (b0+2))(h7:ev (.tmp 7)=ptr (b0+3))(w:World) :
 (execOp ev (tO 2 0)).run Tryz.prog w=.ok (.value (qaf cb b0)) w/\(execOp ev (tO 2 0)).events Tryz.prog w #[]=#[]:=by
 unfold execOp;rw[t_op2_0];constructor
 ·simp[go_sem,h9,h4,h5,h6,h7,qaf]
 ·simp[go_sem]
theorem way_go(hS:∀b,S b->b<w.heap.size){x0 x1 x2 x3:Value}(h0:v 0=x0)(h1:v 1=x1)(h2:v 2=x2)(h3:v 3=x3) :
 ∃n,GoJ Tryz.prog true S (fun _=>False) (fun g w1=>∃u w2 d,g=G (tb.at ⟨fT 18 u,[]⟩ (.inRegion tO2 [1]::[.code tR3])) cs/\u 12=qaf (w.heap.size+5) w.heap.size/\u 9=ptr (w.heap.size+5)/\AtGo w w2 x0 x1 x2 x3/\w1=w2.at d) n (G (tb.at ⟨fT 18 v,[]⟩ [.code Yl]) cs) w:=by
 refine⟨18,?_⟩;rw[t_body];refine GoJ.ctl rfl (fun _=>stepG_seq) ?_;refine GoJ.ctl rfl (fun _=>stepG_region) ?_;rw[t_size0];simp only[List.range,List.range.loop];refine GoJ.box t_at0_0 t_g0_0 jD (fun _ h=>h.elim) t_op0_0 (z:=x0) (by rw[qU (by decide)];exact h0) ?_;rw[t_d0_0,yG (by decide)];refine GoJ.box t_at0_1 t_g0_1 jD (fun _ h=>h.elim) t_op0_1 (z:=x1) (by rw[qU (by decide)];simp[upd];exact h1) ?_;rw[t_d0_1,yG (by decide)];refine GoJ.box t_at0_2 t_g0_2 jD (fun _ h=>h.elim) t_op0_2 (z:=x2) (by rw[qU (by decide)];simp[upd];exact h2) ?_;rw[t_d0_2,yG (by decide)];refine GoJ.box t_at0_3 t_g0_3 jD (fun _ h=>h.elim) t_op0_3 (z:=x3) (by rw[qU (by decide)];simp[upd];exact h3) ?_;rw[t_d0_3,yG (by decide)];simp only[zm];change GoJ _ _ _ _ _ _ _ (boxes w x0 x1 x2 x3);obtain⟨v1,hv1,k4,k5,k6,k7⟩:∃u:Nat->Value,u=upd (upd (upd (upd v 4 (ptr w.heap.size)) 5 (ptr (w.heap.size+1))) 6 (ptr (w.heap.size+2))) 7 (ptr (w.heap.size+3))/\u 4=ptr w.heap.size/\u 5=ptr (w.heap.size+1)/\u 6=ptr (w.heap.size+2)/\u 7=ptr (w.heap.size+3):=⟨_,rfl,by simp[upd],by simp[upd],by simp[upd],by simp[upd]⟩;rw[<-hv1];clear hv1;refine GoJ.copy t_at0_4 t_g0_4 jD (.inl t_op0_4) (z:=.int .i64 0) rfl ?_;rw[t_d0_4,yG (by decide)];refine GoJ.ctl rfl (fun _=>stepG_region_end) ?_;refine GoJ.ctl rfl (fun _=>stepG_seq) ?_;refine GoJ.ctl rfl (fun _=>stepG_region) ?_;rw[t_size1];simp only[List.range,List.range.loop];refine GoJ.chan t_at1_0 t_g1_0 jD (fun _ h=>h.elim) t_op1_0 rfl (dir:=.both) (e:=3) (inf:=(Tryz.prog.info? 3).getD default) (by kernel_rfl) (by kernel_rfl) ?_
 rw[t_d1_0,yG (by decide),zn];obtain⟨wc,hwc⟩:∃wc,wc=(boxes w x0 x1 x2 x3).alloc (.chan 0 #[] false 0 0 false):=⟨_,rfl⟩;rw[<-hwc];have szc:wc.heap.size=w.heap.size+5:=by rw[hwc,zm,zn]
 refine GoJ.alloc t_at1_1 t_g1_1 jD (fun _ h=>h.elim) t_op1_1 Tryz.zeroValue135 ?_;rw[t_d1_1,yG (by decide),szc];obtain⟨wb,hwb⟩:∃wb,wb=wc.alloc (.cells (Value.chan none).cells 135 (0,0)):=⟨_,rfl⟩;rw[<-hwb];have hcb:wb.heap[w.heap.size+5]? = some (.cells #[.chan none] 135 (0,0)):=by rw[hwb,<-szc,xQ];rfl
 refine GoJ.storeC (bk:=w.heap.size+5) (c:=w.heap.size+4) t_at1_2 t_g1_2 jD t_op1_2 (by rw[qU (by decide)];simp[upd]) (by rw[qU (by decide)];simp[upd]) Tryz.sizeOf135 (fun h=>by have:=hS _ h;omega) id hcb (fun w2 sz2 old2 cb2 rest2=>?_);rw[t_d1_2,qeu];refine GoJ.ctl rfl (fun _=>stepG_region_end) ?_;refine GoJ.ctl rfl (fun _=>stepG_seq) ?_;refine GoJ.ctl rfl (fun _=>stepG_region) ?_;rw[t_size2];simp only[List.range,List.range.loop];refine GoJ.pure (v:=qaf (w.heap.size+5) w.heap.size) t_at2_0 t_g2_0 jD (fun w=>qeX (by rw[qU (by decide)];simp[upd]) (by rw[qU (by decide)];simp[upd];exact k4) (by rw[qU (by decide)];simp[upd];exact k5) (by rw[qU (by decide)];simp[upd];exact k6) (by rw[qU (by decide)];simp[upd];exact k7) w) ?_;rw[t_d2_0,yG (by decide)];refine Goes.stop fun w1 ⟨d,hd⟩=>⟨_,w2,d,rfl,by rw[upd_same],by simp[upd],⟨?_,fun b hb=>?_,?_,cb2,?_⟩,hd⟩
 ·rw[sz2,hwb,zm,szc]
 ·rw[old2 b (by omega),hwb,ze _ _ (by omega),hwc,ze _ _ (by rw[zn];omega)]
 ·rw[old2 _ (by omega),hwb,ze _ _ (by omega),hwc,<-zn (w:=w) (x0:=x0) (x1:=x1) (x2:=x2) (x3:=x3),xQ]
 ·rw[rest2.1,rest2.2.1,rest2.2.2,hwb,hwc];exact⟨rfl,rfl,rfl⟩
end
end Go.Proofs.Tryz
end
namespace Go.Sim
open Go Go.Instr Go.Conc
section
variable {P:Program} {Bx:Nat->Prop} {ch:Nat} {z:Value} {ok:Bool} {Q:Goroutine->World->Prop} {n:Nat} {w:World} {g g':Goroutine}
theorem XL(Bx:Nat->Prop)(w:World):yh Bx w w:=fun _ _=>rfl
theorem Stand.ctl(hs:g.status=.running)(h:∀w,stepG P true g w=.go g' w #[])(k:Stand P Bx ch z ok Q (n+1) g' w):Stand P Bx ch z ok Q (n+2) g w :=
 .step (fun _=>g') (fun w=>w.drawn) (fun _=>#[]) hs (fun w1 _=>⟨h w1,fun e he=>by simp at he⟩) fun _ hk=>k.keep hk
variable {b:Frame} {a:Go.Act} {kk:List Item} {cs:List Frame} {ops:Array Oper} {i:Nat} {rest:List Nat} {o:Oper}
theorem Stand.pure{v:Value}(ho:ops[i]? = some o)(hg:o.guard=none)(hk:b.kind≠.early)(hr:∀w,(execOp a.eval o).run P w=.ok (.value v) w/\(execOp a.eval o).events P w #[]=#[])
 (k:Stand P Bx ch z ok Q (n+1) (G (b.at (a.put o.dst v) (.inRegion ops rest::kk)) cs) w):Stand P Bx ch z ok Q (n+2) (G (b.at a (.inRegion ops (i::rest)::kk)) cs) w :=
 .ctl rfl (fun w=>by rw[stepG_value ho (by unfold Region.wanted;rw[hg]) hk (hr w).1,listed_none (hr w).2]) k
theorem qca{x:Operand}{y:Value}(hop:o.op=.assign x\/o.op=.move x)(hx:a.eval x=y)(w:World):(execOp a.eval o).run P w=.ok (.value y) w/\(execOp a.eval o).events P w #[]=#[]:=by
 unfold execOp;rcases hop with hop|hop<;>simp only[hop,hx]<;>constructor<;>simp[go_sem]
theorem QF{x:Operand}{xs:Array Value}{y:Value}{j:Nat}(hop:o.op=.extract x j)(hx:a.eval x=.tuple xs)(hy:xs[j]? = some y)(w:World):(execOp a.eval o).run P w=.ok (.value y) w/\(execOp a.eval o).events P w #[]=#[]:=by
 unfold execOp;simp only[hop,hx,Instr.extract,hy];constructor<;>simp[go_sem]
theorem Stand.load{t e:TypeId}{x:Operand}{bk:Nat}{y:Value}{f:Nat×Nat}(ho:ops[i]? = some o)(hg:o.guard=none)(hk:b.kind≠.early)(hop:o.op=.load t x)(hx:a.eval x=.pointer (some ⟨bk,0,none⟩))(hag:∀w,(isAgg t).run P w=.ok false w)
 (hb:Bx bk) (hc:w.heap[bk]? = some (.cells #[y] e f))
 (k:Stand P Bx ch z ok Q (n+1) (G (b.at (a.put o.dst y) (.inRegion ops rest::kk)) cs) w):Stand P Bx ch z ok Q (n+2) (G (b.at a (.inRegion ops (i::rest)::kk)) cs) w:=by
 refine .step (fun _=>_) (fun w=>w.drawn) (fun w1=>listed P b.fn a o w1) rfl (fun w1 hw1=>?_) fun _ hk=>k.keep hk;have hc1:w1.cell? ⟨bk,0,none⟩=some y:=by simp[World.cell?,(hw1 bk hb).trans hc]
 have hr:(execOp a.eval o).run P w1=.ok (.value y) w1:=by
  unfold execOp;simp only[hop,hx];go_simp
 refine⟨stepG_value ho (by unfold Region.wanted;rw[hg]) hk hr,fun ev hev=>?_⟩;have h2:=mem_listed hev
 have e1:(execOp a.eval o).events P w1 #[]=#[⟨.cell ⟨bk,0,none⟩,false,false⟩]:=by
  unfold execOp;simp only[hop,hx];simp[go_sem,hag,hc1]
 rw[e1]at h2;simp at h2;subst h2;refine⟨fun x hx=>?_,by simp,by simp,fun B hB=>by rw[ofEvent_cell0];exact hB bk hb⟩;simp only[ofEvent_cell0,MemAct.touch?,Option.some.injEq]at hx;subst hx;exact⟨hb,rfl⟩
theorem qfE{t:TypeId}{x:Operand}(ho:ops[i]? = some o)(hg:o.guard=none)(hk:b.kind≠.early)(hr:∀w,(execOp a.eval o).run P w=.ok (.comm #[rcase ch z] true (.recv ok)) w/\(execOp a.eval o).events P w #[]=#[])(w:World) :
 stepG P true (G (b.at a (.inRegion ops (i::rest)::kk)) cs) w=.comm (core (G (b.at a (.inRegion ops (i::rest)::kk)) cs)) #[rcase ch z] true (.recv ok) w #[]:=by
 rw[stepG_comm ho (by unfold Region.wanted;rw[hg]) hk (hr w).1,listed_none (hr w).2,core_G]
theorem Closing.ctl(hs:g.status=.running)(h:∀w,stepG P false g w=.go g' w #[])(k:Closing P ch n g'):Closing P ch (n+1) g :=
 .step (fun _=>g') (fun w=>w.drawn) (fun _=>#[]) hs (fun w1=>⟨h w1,fun e he=>by simp at he⟩) fun _=>k
end
theorem Qi{md:Region.Mode}{ops:Array Oper}{l:Array Bool}(fuel t:Nat)(h:Region.ready md ops l≠[]) :
 ∃i t',i∈Region.ready md ops l/\Region.linearise.go md ops (fuel+1) t l []=i::Region.linearise.go md ops fuel t' (l.setIfInBounds i true) []:=by
 have hlt:t%(Region.ready md ops l).length<(Region.ready md ops l).length:=Nat.mod_lt _ (List.length_pos_iff.2 h);obtain⟨i,hi⟩:∃i,(Region.ready md ops l)[t%(Region.ready md ops l).length]? = some i:=⟨_,qM hlt⟩;refine⟨i,t/(Region.ready md ops l).length,qI hi,?_⟩;rw[Region.linearise.go]
 change(match (Region.ready md ops l)[t%(Region.ready md ops l).length]? with
  | some i=>Region.linearise.go md ops fuel (t/(Region.ready md ops l).length) (l.setIfInBounds i true) [i]
  | none=>[].reverse)=_
 rw[hi];simp only[];rw[linearise_go_acc,List.reverse_singleton,List.singleton_append]
end Go.Sim
section
namespace Go.Proofs.Tryz
open Go Go.Conc Go.Sim Go.RowKit
open Go.ConcN (upd upd_ne upd_same)
noncomputable def tAft:List Item:=[.code (.seq (.cond (.tmp 15) .skip (.exit 0)) (.block 1 (.region 6 tO6 false))),.inLoop tL,.inBlock 0,.code tR7]
abbrev zI:Value:=.int .i64 0
section
variable {Bx:Nat->Prop} {ch:Nat} {Q:Goroutine->World->Prop} {w:World} {cs:List Frame} {v:Nat->Value}
def qbT(cs:List Frame)(ch:Nat)(x:Value)(g:Goroutine):Prop:=∃u:Nat->Value,g=G (tb.at ⟨fT 18 u,[]⟩ (.inRegion tO5 [0,1]::tAft)) cs/\u 13=.chan (some ch)/\u 10=x
theorem recv_run{ev:Operand->Value}(h:ev (.tmp 13)=.chan (some ch))(w:World):(execOp ev (tO 5 0)).run Tryz.prog w=.ok (.comm #[rcase ch zI] true (.recv true)) w/\(execOp ev (tO 5 0)).events Tryz.prog w #[]=#[]:=by
 unfold execOp;rw[t_op5_0];simp only[h];constructor
 ·simp[go_sem,rcase]
 ·simp[go_sem]
theorem qfD{u:Nat->Value}{rest:List Nat}{kk:List Item}(h:u 13=.chan (some ch))(w:World) :
 stepG Tryz.prog true (G (tb.at ⟨fT 18 u,[]⟩ (.inRegion tO5 (0::rest)::kk)) cs) w=.comm (core (G (tb.at ⟨fT 18 u,[]⟩ (.inRegion tO5 (0::rest)::kk)) cs)) #[rcase ch zI] true (.recv true) w #[] :=
 qfE (t:=0) (x:=.tmp 0) qfU t_g5_0 jD (fun w=>recv_run (by rw[qU (by decide)];exact h) w) w
theorem qga{x:Value}(h13:v 13=.chan (some ch))(h10:v 10=x):Stand Tryz.prog Bx ch zI true (fun g w=>stepG Tryz.prog true g w=.comm (core g) #[rcase ch zI] true (.recv true) w #[]/\qbT cs ch x g) 3 (G (tb.at ⟨fT 18 v,[]⟩ [.code tL,.inLoop tL,.inBlock 0,.code tR7]) cs) w:=by
 have e:(Item.code tL)=.code (.seq (.region 5 tO5 false) (.seq (.cond (.tmp 15) .skip (.exit 0)) (.block 1 (.region 6 tO6 false)))):=congrArg Item.code t_L;rw[show([.code tL,.inLoop tL,.inBlock 0,.code tR7]:List Item)=.code (.seq (.region 5 tO5 false) (.seq (.cond (.tmp 15) .skip (.exit 0)) (.block 1 (.region 6 tO6 false))))::[.inLoop tL,.inBlock 0,.code tR7]from congrArg (·::[Item.inLoop tL,.inBlock 0,.code tR7]) e];refine .ctl rfl (fun _=>stepG_seq) ?_;refine .ctl rfl (fun _=>stepG_region) ?_;rw[t_size5];simp only[List.range,List.range.loop];exact .ready rfl fun w1 _=>⟨⟨qfD h13 w1,v,rfl,h13,h10⟩,qfD h13 w1⟩
theorem stand1{cb:Nat}(hcb:Bx cb)(hc:w.heap[cb]? = some (.cells #[.chan (some ch)] 135 (0,0)))(h9:v 9=ptr cb) :
 Stand Tryz.prog Bx ch zI true (fun g w=>stepG Tryz.prog true g w=.comm (core g) #[rcase ch zI] true (.recv true) w #[]/\qbT cs ch zI g) 15 (G (tb.at ⟨fT 18 v,[]⟩ (.inRegion tO2 []::[.code tR3])) cs) w:=by
 refine .ctl rfl (fun _=>stepG_region_end) ?_;unfold tR3;refine .ctl rfl (fun _=>stepG_seq) ?_;refine .ctl rfl (fun _=>stepG_region) ?_;rw[t_size3];simp only[List.range,List.range.loop];refine .pure (v:=zI) t_at3_0 t_g3_0 jD (qca (.inl t_op3_0) rfl) ?_;rw[t_d3_0,yG (by decide)];refine .ctl rfl (fun _=>stepG_region_end) ?_;refine .ctl rfl (fun _=>stepG_seq) ?_;refine .ctl rfl (fun _=>stepG_seq) ?_;refine .ctl rfl (fun _=>stepG_region) ?_;rw[t_size4];simp only[List.range,List.range.loop];refine .load t_at4_0 t_g4_0 jD t_op4_0 (by rw[qU (by decide)];simp[upd];exact h9) Tryz.isAgg135 hcb hc ?_;rw[t_d4_0,yG (by decide)];refine .ctl rfl (fun _=>stepG_region_end) ?_;refine .ctl rfl (fun _=>stepG_block) ?_;refine .ctl rfl (fun _=>stepG_loop) ?_;refine qga ?_ ?_
 ·rw[upd_same]
 ·simp[upd]
theorem qaB{x y:Value}{op:Bool}{g0:Goroutine}(h:qbT cs ch x g0):∃u:Nat->Value,Conc.served (core g0) (recvd true y op)=G (tb.at ⟨fT 18 u,[]⟩ (.inRegion tO5 [1]::tAft)) cs/\u 13=.chan (some ch)/\u 10=x/\u 14=.tuple #[y,.bool op]:=by
 obtain⟨u,rfl,h13,h10⟩:=h;rw[core_G,served_G,qfU];simp only[Option.bind_some];rw[t_d5_0,yG (by decide)];exact⟨_,rfl,by simp[upd,h13],by simp[upd,h10],by simp[upd,recvd]⟩
theorem stand2{y:Value}(h13:v 13=.chan (some ch))(h14:v 14=.tuple #[y,.bool true]) :
 Stand Tryz.prog Bx ch zI true (fun g w=>stepG Tryz.prog true g w=.comm (core g) #[rcase ch zI] true (.recv true) w #[]/\qbT cs ch y g) 15 (G (tb.at ⟨fT 18 v,[]⟩ (.inRegion tO5 [1]::tAft)) cs) w:=by
 refine .pure qfV t_g5_1 jD (QF qfW (by rw[qU (by decide)];exact h14) rfl) ?_;rw[t_d5_1,yG (by decide)];refine .ctl rfl (fun _=>stepG_region_end) ?_;unfold tAft;refine .ctl rfl (fun _=>stepG_seq) ?_;refine .ctl rfl (fun _=>stepG_cond (t:=true) (by rw[qU (by decide)];simp[upd])) ?_;simp only[if_true];refine .ctl rfl (fun _=>stepG_skip) ?_;refine .ctl rfl (fun _=>stepG_block) ?_;refine .ctl rfl (fun _=>stepG_region) ?_;rw[t_size6];simp only[List.range,List.range.loop];refine .pure t_at6_0 t_g6_0 jD (QF (y:=y) t_op6_0 (by rw[qU (by decide)];simp[upd];exact h14) rfl) ?_;rw[t_d6_0,yG (by decide)];refine .pure t_at6_1 t_g6_1 jD (qca (y:=y) (.inl t_op6_1) (by rw[qU (by decide),upd_same])) ?_;rw[t_d6_1,yG (by decide)];refine .ctl rfl (fun _=>stepG_region_end) ?_;refine .ctl rfl (fun _=>stepG_inBlock) ?_;refine .ctl rfl (fun _=>stepG_inLoop) ?_;refine qga ?_ ?_
 ·simp[upd,h13]
 ·rw[upd_same]
theorem way_end{S:Nat->Prop}{cf:Frame}{cr:List Frame}{y:Value}(h10:v 10=y){z:Value}(h14:v 14=.tuple #[z,.bool false]) :
 GoJ Tryz.prog true S Bx (fun g w1=>g=G (cf.finish y) cr/\∃d,w1=w.at d) 12 (G (tb.at ⟨fT 18 v,[]⟩ (.inRegion tO5 [1]::tAft)) (cf::cr)) w:=by
 refine GoJ.pure qfV t_g5_1 jD (QF qfW (by rw[qU (by decide)];exact h14) rfl) ?_;rw[t_d5_1,yG (by decide)];refine GoJ.ctl rfl (fun _=>stepG_region_end) ?_;unfold tAft;refine GoJ.ctl rfl (fun _=>stepG_seq) ?_;refine GoJ.ctl rfl (fun _=>stepG_cond (t:=false) (by rw[qU (by decide)];simp[upd])) ?_;simp only[Bool.false_eq_true,if_false];refine GoJ.ctl rfl (fun _=>stepG_exit rfl) ?_;unfold tR7;refine GoJ.ctl rfl (fun _=>stepG_seq) ?_;refine GoJ.ctl rfl (fun _=>stepG_region) ?_;rw[t_size7];simp only[List.range,List.range.loop];refine GoJ.copy t_at7_0 t_g7_0 jD (.inr t_op7_0) (z:=y) (by rw[qU (by decide)];simp[upd,h10]) ?_;rw[t_d7_0,yG (by decide)];refine GoJ.copy t_at7_1 t_g7_1 jD (.inl t_op7_1) (z:=y) (by rw[qU (by decide),upd_same]) ?_;rw[t_d7_1,yG (by decide)];refine GoJ.ctl rfl (fun _=>stepG_region_end) ?_;refine GoJ.ctl rfl (fun _=>stepG_ret') ?_;refine GoJ.ctl (g':=G (cf.finish y) cr) rfl (fun w=>?_) (Goes.stop fun w1 hd=>⟨rfl,hd⟩);have hr:Tryz.f71.results=#[.tmp 8]:=by kernel_rfl
 have:=stepG_leave (P:=Tryz.prog) (main:=true) (b:=tb) (a:=⟨fT 18 (upd (upd (upd v 15 (.bool false)) 17 y) 8 y),[]⟩) (todo:=[.code .ret]) (c:=cf) (cs:=cr) (w:=w) rfl rfl ZH (results_tmp hr _ _ w) (events_results_tmp hr _ _);rw[qet (by decide),upd_same]at this;exact this
end
end Go.Proofs.Tryz
end
section
namespace Go.Proofs.Tryz
open Go Go.Conc Go.Sim Go.RowKit
open Go.ConcN (upd upd_ne upd_same)
def kb:Frame:=baseD 104
noncomputable def qcm:Frame:={ (default:Frame)with fn:=Tryz.prog.funcs.size,defers:=[],mode:=.panicking [goexitEntry] }
theorem Yj:kb.kind≠.early:=by intro h;cases h
def qbk(cb b0:Nat):Deferred:={ target:=.fn (.func 104) #[ptr cb,ptr b0,ptr (b0+1),ptr (b0+2),ptr (b0+3)],args:=#[] }
theorem k_born(cb b0:Nat)(w:World):stepG Tryz.prog false (born Tryz.prog (qbk cb b0)) w =
 .go (G (kb.at ⟨#[ptr cb,ptr b0,ptr (b0+1),ptr (b0+2),ptr (b0+3),undef,undef,undef,undef,undef,undef,undef,undef,undef,undef],[]⟩ [.code qeN]) [qcm]) w #[]:=by
 simp[born,qbk,stepG,unwind,callDeferred,invoke,callFunc,Tryz.func104,Tryz.f104,seen,GStep.after,G,Frame.enter,Frame.at,kb,baseD,qcm,qeN]
theorem go_run{ev:Operand->Value}{cb b0:Nat}(h:ev (.tmp 12)=qaf cb b0)(w:World):(execOp ev (tO 2 1)).run Tryz.prog w=.ok (.spawn (qbk cb b0)) w/\(execOp ev (tO 2 1)).events Tryz.prog w #[]=#[]:=by
 unfold execOp;rw[t_op2_1];simp only;constructor
 ·simp[resolve,Deferred.ofValue,h,qaf,qbk]
 ·simp[resolve,Deferred.ofValue,h,qaf]
theorem go_step{v:Nat->Value}{kk:List Item}{cs:List Frame}{cb b0:Nat}(h:v 12=qaf cb b0)(w:World):stepG Tryz.prog true (G (tb.at ⟨fT 18 v,[]⟩ (.inRegion tO2 [1]::kk)) cs) w=.spawn (G (tb.at ⟨fT 18 v,[]⟩ (.inRegion tO2 []::kk)) cs) (born Tryz.prog (qbk cb b0)) w #[]:=by
 have hy:=go_run (ev:=Go.Act.eval ⟨fT 18 v,[]⟩) (cb:=cb) (b0:=b0) (by rw[qU (by decide)];exact h) w;rw[stepG_spawn t_at2_1 (by unfold Region.wanted;rw[t_g2_1]) jD hy.1 rfl,t_d2_1,qeu,listed_none hy.2]
def xB(ch:Nat):Deferred:={ target:=.builtin .close #[135] 0 #[false],args:=#[.chan (some ch)] }
theorem k_ty0_1:(kO 0 1).type=0:=by kernel_rfl
theorem qcP{a:Go.Act}{rest:List Nat}{kk:List Item}{cs:List Frame}{ch:Nat}(h:a.eval (.tmp 5)=.chan (some ch))(w:World):stepG Tryz.prog false (G (kb.at a (.inRegion kO0 (1::rest)::kk)) cs) w=.go (G (kb.at ⟨a.tmps,xB ch::a.defers⟩ (.inRegion kO0 rest::kk)) cs) w #[]:=by
 have hr:(execOp a.eval (kO 0 1)).run Tryz.prog w=.ok (.defer (xB ch)) w:=by
  unfold execOp;rw[qeS];simp[resolve,h,xB,k_ty0_1]
 have he:(execOp a.eval (kO 0 1)).events Tryz.prog w #[]=#[]:=by
  unfold execOp;rw[qeS];simp[resolve,h]
 have hfin:(kb.at ⟨a.tmps,xB ch::a.defers⟩ (.inRegion kO0 (1::rest)::kk)).finish undef=kb.at ⟨a.tmps,xB ch::a.defers⟩ (.inRegion kO0 rest::kk):=by rw[Frame.finish_at,qeO,Option.bind_some,k_d0_1];rfl
 have hk':(kb.kind==CallKind.early)=false:=rfl;rw[stepG_oper qeO (by unfold Region.wanted;rw[k_g0_1]),<-hfin];simp[stepG.apply,hr,he,G,Frame.at,hk',GStep.after,seen_none]
end Go.Proofs.Tryz
end
namespace Go.Proofs.Tryz
open Go Go.Conc Go.Sim
theorem jP:∀l0 l1 l2 l3 l4 l5 l6 l7 l8 l9:Bool,Region.ready .any kO1 #[l0,l1,l2,l3,l4,l5,l6,l7,l8,l9] =
 [0,1,2,3,4,5,6,7,8,9].filter fun i=>match i with|0 => !l0|1 => !l1|2 => !l2&&l1|3 => !l3|4 => !l4&&l2&&l3|5 => !l5|6 => !l6|7 => !l7|8 => !l8&&l4&&l5&&l6&&l7|_ => !l9&&l0&&l8:=by
 decide +kernel
end Go.Proofs.Tryz
section
namespace Go.Proofs.Tryz
open Go Go.Conc Go.Sim Go.RowKit
open Go.ConcN (upd upd_ne upd_same)
def kT(cb b0 ch mb:Nat)(dv lv sv mv y0 y1 y2 y3 y4:Value)(l0 l1 l2 l3 l4 l5 l6 l7:Bool):Array Value :=
 #[ptr cb,ptr b0,ptr (b0+1),ptr (b0+2),ptr (b0+3),.chan (some ch),bif l0 then .chan (some ch)else undef,bif l1 then ptr b0 else undef,bif l2 then dv else undef,bif l3 then .map (some mb)else undef,bif l4 then .agg #[y0,y1,y2,y3,y4,.map (some mb)]else undef,bif l5 then lv else undef,bif l6 then sv else undef,bif l7 then mv else undef,undef]
section
variable {cb b0 ch mb:Nat} {dv lv sv mv y0 y1 y2 y3 y4:Value} {l0 l1 l2 l3 l4 l5 l6 l7:Bool} {ds:List Deferred}
theorem k_put0:Go.Act.put ⟨kT cb b0 ch mb dv lv sv mv y0 y1 y2 y3 y4 false l1 l2 l3 l4 l5 l6 l7,ds⟩ (some 6) (.chan (some ch))=⟨kT cb b0 ch mb dv lv sv mv y0 y1 y2 y3 y4 true l1 l2 l3 l4 l5 l6 l7,ds⟩:=rfl
theorem k_set0:#[false,l1,l2,l3,l4,l5,l6,l7,false,false].setIfInBounds 0 true=#[true,l1,l2,l3,l4,l5,l6,l7,false,false]:=rfl
theorem k_put1:Go.Act.put ⟨kT cb b0 ch mb dv lv sv mv y0 y1 y2 y3 y4 l0 false l2 l3 l4 l5 l6 l7,ds⟩ (some 7) (ptr b0)=⟨kT cb b0 ch mb dv lv sv mv y0 y1 y2 y3 y4 l0 true l2 l3 l4 l5 l6 l7,ds⟩:=rfl
theorem k_set1:#[l0,false,l2,l3,l4,l5,l6,l7,false,false].setIfInBounds 1 true=#[l0,true,l2,l3,l4,l5,l6,l7,false,false]:=rfl
theorem k_put2:Go.Act.put ⟨kT cb b0 ch mb dv lv sv mv y0 y1 y2 y3 y4 l0 l1 false l3 l4 l5 l6 l7,ds⟩ (some 8) (dv)=⟨kT cb b0 ch mb dv lv sv mv y0 y1 y2 y3 y4 l0 l1 true l3 l4 l5 l6 l7,ds⟩:=rfl
theorem k_set2:#[l0,l1,false,l3,l4,l5,l6,l7,false,false].setIfInBounds 2 true=#[l0,l1,true,l3,l4,l5,l6,l7,false,false]:=rfl
theorem k_put3:Go.Act.put ⟨kT cb b0 ch mb dv lv sv mv y0 y1 y2 y3 y4 l0 l1 l2 false l4 l5 l6 l7,ds⟩ (some 9) (.map (some mb))=⟨kT cb b0 ch mb dv lv sv mv y0 y1 y2 y3 y4 l0 l1 l2 true l4 l5 l6 l7,ds⟩:=rfl
theorem k_set3:#[l0,l1,l2,false,l4,l5,l6,l7,false,false].setIfInBounds 3 true=#[l0,l1,l2,true,l4,l5,l6,l7,false,false]:=rfl
theorem k_put4:Go.Act.put ⟨kT cb b0 ch mb dv lv sv mv y0 y1 y2 y3 y4 l0 l1 l2 l3 false l5 l6 l7,ds⟩ (some 10) (.agg #[y0,y1,y2,y3,y4,.map (some mb)])=⟨kT cb b0 ch mb dv lv sv mv y0 y1 y2 y3 y4 l0 l1 l2 l3 true l5 l6 l7,ds⟩:=rfl
theorem k_set4:#[l0,l1,l2,l3,false,l5,l6,l7,false,false].setIfInBounds 4 true=#[l0,l1,l2,l3,true,l5,l6,l7,false,false]:=rfl
theorem k_put5:Go.Act.put ⟨kT cb b0 ch mb dv lv sv mv y0 y1 y2 y3 y4 l0 l1 l2 l3 l4 false l6 l7,ds⟩ (some 11) (lv)=⟨kT cb b0 ch mb dv lv sv mv y0 y1 y2 y3 y4 l0 l1 l2 l3 l4 true l6 l7,ds⟩:=rfl
theorem k_set5:#[l0,l1,l2,l3,l4,false,l6,l7,false,false].setIfInBounds 5 true=#[l0,l1,l2,l3,l4,true,l6,l7,false,false]:=rfl
theorem k_put6:Go.Act.put ⟨kT cb b0 ch mb dv lv sv mv y0 y1 y2 y3 y4 l0 l1 l2 l3 l4 l5 false l7,ds⟩ (some 12) (sv)=⟨kT cb b0 ch mb dv lv sv mv y0 y1 y2 y3 y4 l0 l1 l2 l3 l4 l5 true l7,ds⟩:=rfl
theorem k_set6:#[l0,l1,l2,l3,l4,l5,false,l7,false,false].setIfInBounds 6 true=#[l0,l1,l2,l3,l4,l5,true,l7,false,false]:=rfl
theorem k_put7:Go.Act.put ⟨kT cb b0 ch mb dv lv sv mv y0 y1 y2 y3 y4 l0 l1 l2 l3 l4 l5 l6 false,ds⟩ (some 13) (mv)=⟨kT cb b0 ch mb dv lv sv mv y0 y1 y2 y3 y4 l0 l1 l2 l3 l4 l5 l6 true,ds⟩:=rfl
theorem k_set7:#[l0,l1,l2,l3,l4,l5,l6,false,false,false].setIfInBounds 7 true=#[l0,l1,l2,l3,l4,l5,l6,true,false,false]:=rfl
theorem k_args:(#[Operand.tmp 10,.tmp 11,.tmp 12,.tmp 13].map (Go.Act.eval ⟨kT cb b0 ch mb dv lv sv mv y0 y1 y2 y3 y4 l0 l1 l2 l3 true true true true,ds⟩))=#[.agg #[y0,y1,y2,y3,y4,.map (some mb)],lv,sv,mv]:=by simp[Go.Act.eval,kT]
end
def off:List Bool->Nat
 | []=>0
 | true::l=>off l
 | false::l=>off l+1
theorem off0{l1 l2 l3 l4 l5 l6 l7:Bool}{n:Nat}(h:off [false,l1,l2,l3,l4,l5,l6,l7,false,false]=n+1):off [true,l1,l2,l3,l4,l5,l6,l7,false,false]=n:=by
 cases l1<;>cases l2<;>cases l3<;>cases l4<;>cases l5<;>cases l6<;>cases l7<;>exact Nat.succ.inj h
theorem off1{l0 l2 l3 l4 l5 l6 l7:Bool}{n:Nat}(h:off [l0,false,l2,l3,l4,l5,l6,l7,false,false]=n+1):off [l0,true,l2,l3,l4,l5,l6,l7,false,false]=n:=by
 cases l0<;>cases l2<;>cases l3<;>cases l4<;>cases l5<;>cases l6<;>cases l7<;>exact Nat.succ.inj h
theorem off2{l0 l1 l3 l4 l5 l6 l7:Bool}{n:Nat}(h:off [l0,l1,false,l3,l4,l5,l6,l7,false,false]=n+1):off [l0,l1,true,l3,l4,l5,l6,l7,false,false]=n:=by
 cases l0<;>cases l1<;>cases l3<;>cases l4<;>cases l5<;>cases l6<;>cases l7<;>exact Nat.succ.inj h
theorem off3{l0 l1 l2 l4 l5 l6 l7:Bool}{n:Nat}(h:off [l0,l1,l2,false,l4,l5,l6,l7,false,false]=n+1):off [l0,l1,l2,true,l4,l5,l6,l7,false,false]=n:=by
 cases l0<;>cases l1<;>cases l2<;>cases l4<;>cases l5<;>cases l6<;>cases l7<;>exact Nat.succ.inj h
theorem off4{l0 l1 l2 l3 l5 l6 l7:Bool}{n:Nat}(h:off [l0,l1,l2,l3,false,l5,l6,l7,false,false]=n+1):off [l0,l1,l2,l3,true,l5,l6,l7,false,false]=n:=by
 cases l0<;>cases l1<;>cases l2<;>cases l3<;>cases l5<;>cases l6<;>cases l7<;>exact Nat.succ.inj h
theorem off5{l0 l1 l2 l3 l4 l6 l7:Bool}{n:Nat}(h:off [l0,l1,l2,l3,l4,false,l6,l7,false,false]=n+1):off [l0,l1,l2,l3,l4,true,l6,l7,false,false]=n:=by
 cases l0<;>cases l1<;>cases l2<;>cases l3<;>cases l4<;>cases l6<;>cases l7<;>exact Nat.succ.inj h
theorem off6{l0 l1 l2 l3 l4 l5 l7:Bool}{n:Nat}(h:off [l0,l1,l2,l3,l4,l5,false,l7,false,false]=n+1):off [l0,l1,l2,l3,l4,l5,true,l7,false,false]=n:=by
 cases l0<;>cases l1<;>cases l2<;>cases l3<;>cases l4<;>cases l5<;>cases l7<;>exact Nat.succ.inj h
theorem off7{l0 l1 l2 l3 l4 l5 l6:Bool}{n:Nat}(h:off [l0,l1,l2,l3,l4,l5,l6,false,false,false]=n+1):off [l0,l1,l2,l3,l4,l5,l6,true,false,false]=n:=by
 cases l0<;>cases l1<;>cases l2<;>cases l3<;>cases l4<;>cases l5<;>cases l6<;>exact Nat.succ.inj h
theorem k_some(l0 l1 l2 l3 l4 l5 l6 l7:Bool)(h2:l2=true->l1=true)(h4:l4=true->l2=true/\l3=true):Region.ready .any kO1 #[l0,l1,l2,l3,l4,l5,l6,l7,false,false]≠[]:=by
 rw[jP];revert l0 l1 l2 l3 l4 l5 l6 l7;decide
def left(l0:Bool):List Nat:=bif l0 then[9]else[0,9]
theorem k_left(l0:Bool)(fuel t:Nat)(h:off [l0,true,true,true,true,true,true,true,false,false]=fuel+1):Region.linearise.go .any kO1 fuel t #[l0,true,true,true,true,true,true,true,true,false] []=left l0:=by
 cases l0 with
 | true =>
   obtain rfl:fuel=1:=(Nat.succ.inj h).symm;obtain⟨i,t',hi,e⟩:=Qi (md:=.any) (ops:=kO1) (l:=#[true,true,true,true,true,true,true,true,true,false]) 0 t (by rw[jP];decide);rw[jP]at hi;obtain rfl:i=9:=(by revert hi;simp);rw[e];rfl
 | false =>
   obtain rfl:fuel=2:=(Nat.succ.inj h).symm;obtain⟨i,t',hi,e⟩:=Qi (md:=.any) (ops:=kO1) (l:=#[false,true,true,true,true,true,true,true,true,false]) 1 t (by rw[jP];decide);rw[jP]at hi;obtain rfl:i=0:=(by revert hi;simp);rw[e];obtain⟨i,t'',hi,e⟩:=Qi (md:=.any) (ops:=kO1) (l:=#[true,true,true,true,true,true,true,true,true,false]) 0 t' (by rw[jP];decide);rw[jP]at hi;obtain rfl:i=9:=(by revert hi;simp);rw[show(#[false,true,true,true,true,true,true,true,true,false]:Array Bool).setIfInBounds 0 true=#[true,true,true,true,true,true,true,true,true,false]from rfl,e];rfl
structure KidK (S Bx:Nat->Prop) (cb b0 ch mb:Nat) (dv lv sv mv y0 y1 y2 y3 y4:Value) (w wl:World):Prop where
 kd:dv=.agg #[y0,y1,y2,y3,y4]
 kl:Loaded Tryz.prog wl b0 y0 y1 y2 y3 y4 lv sv mv
 k0:∃c e f,wl.heap[b0]? = some (.cells c e f)/\w.heap[b0]? = some (.cells c e f)
 k1:∃c e f,wl.heap[b0+1]? = some (.cells c e f)/\w.heap[b0+1]? = some (.cells c e f)
 k2:∃c e f,wl.heap[b0+2]? = some (.cells c e f)/\w.heap[b0+2]? = some (.cells c e f)
 k3:∃c e f,wl.heap[b0+3]? = some (.cells c e f)/\w.heap[b0+3]? = some (.cells c e f)
 kc:w.heap[cb]? = some (.cells #[.chan (some ch)] 135 (0,0))
 nS:¬S b0/\¬S (b0+1)/\¬S (b0+2)/\¬S (b0+3)/\¬S cb
 bx:∀c,Bx c->c<w.heap.size
theorem KidK.push{S Bx:Nat->Prop}{cb b0 ch mb:Nat}{dv lv sv mv y0 y1 y2 y3 y4:Value}{w wl:World}(h:KidK S Bx cb b0 ch mb dv lv sv mv y0 y1 y2 y3 y4 w wl)(o:Obj):KidK S Bx cb b0 ch mb dv lv sv mv y0 y1 y2 y3 y4 (w.alloc o) wl:=by
 have old:∀{b:Nat} {x:Obj},w.heap[b]? = some x->(w.alloc o).heap[b]? = some x:=fun hb=>(ze w o (qy hb).1).trans hb;obtain⟨c0,e0,f0,p0,q0⟩:=h.k0;obtain⟨c1,e1,f1,p1,q1⟩:=h.k1;obtain⟨c2,e2,f2,p2,q2⟩:=h.k2;obtain⟨c3,e3,f3,p3,q3⟩:=h.k3;exact⟨h.kd,h.kl,⟨c0,e0,f0,p0,old q0⟩,⟨c1,e1,f1,p1,old q1⟩,⟨c2,e2,f2,p2,old q2⟩,⟨c3,e3,f3,p3,old q3⟩,old h.kc,h.nS,fun c hc=>by rw[zm];have:=h.bx c hc;omega⟩
theorem YK{cb ch:Nat}{w:World}(h:w.heap[cb]? = some (.cells #[.chan (some ch)] 135 (0,0))):(Instr.loadAt 135 (ptr cb)).run Tryz.prog w=.ok (.chan (some ch)) w:=by
 have hc:w.cell? ⟨cb,0,none⟩=some (.chan (some ch)):=by simp[World.cell?,h]
 go_simp
section
variable {S Bx:Nat->Prop} {cb b0 ch mb:Nat} {dv lv sv mv y0 y1 y2 y3 y4:Value}
def mapW(w0:World)(l3:Bool):World:=bif l3 then w0.alloc (.map #[] 0)else w0
def qbQ(cb b0 ch mb:Nat)(dv lv sv mv y0 y1 y2 y3 y4:Value)(w0:World)(g:Goroutine)(w:World):Prop :=
 ∃(l0:Bool) (d:Nat),g=G (Frame.enter Tryz.prog 96 #[.agg #[y0,y1,y2,y3,y4,.map (some mb)],lv,sv,mv] .normal) [kb.at ⟨kT cb b0 ch mb dv lv sv mv y0 y1 y2 y3 y4 l0 true true true true true true true,[xB ch]⟩ [.inRegion kO1 (8::left l0)],qcm]/\w=(mapW w0 true).at d
theorem kid_ops{w0 wl:World}(hmb:mb=w0.heap.size)(hK:KidK S Bx cb b0 ch mb dv lv sv mv y0 y1 y2 y3 y4 w0 wl) :
 ∀(fuel t:Nat) (l0 l1 l2 l3 l4 l5 l6 l7:Bool),off [l0,l1,l2,l3,l4,l5,l6,l7,false,false]=fuel->(l2=true->l1=true)->(l4=true->l2=true/\l3=true) ->
  GoJ Tryz.prog false S Bx (qbQ cb b0 ch mb dv lv sv mv y0 y1 y2 y3 y4 w0) fuel
   (G (kb.at ⟨kT cb b0 ch mb dv lv sv mv y0 y1 y2 y3 y4 l0 l1 l2 l3 l4 l5 l6 l7,[xB ch]⟩ [.inRegion kO1 (Region.linearise.go .any kO1 fuel t #[l0,l1,l2,l3,l4,l5,l6,l7,false,false] [])]) [qcm]) (mapW w0 l3):=by
 intro fuel
 induction fuel with
 | zero =>
   intro t l0 l1 l2 l3 l4 l5 l6 l7 h;exfalso;revert h;cases l0<;>cases l1<;>cases l2<;>cases l3<;>cases l4<;>cases l5<;>cases l6<;>cases l7<;>exact fun h=>Nat.noConfusion h
 | succ fuel ih =>
   intro t l0 l1 l2 l3 l4 l5 l6 l7 hoff h2 h4;obtain⟨k,t',hk,e⟩:=Qi fuel t (k_some l0 l1 l2 l3 l4 l5 l6 l7 h2 h4);rw[e];clear e;rw[jP]at hk;simp only[List.mem_filter,List.mem_cons,List.not_mem_nil,or_false]at hk;obtain⟨hk,hc⟩:=hk
   have hW:KidK S Bx cb b0 ch mb dv lv sv mv y0 y1 y2 y3 y4 (mapW w0 l3) wl:=by
    cases l3
    ·exact hK
    ·exact hK.push _
   rcases hk with rfl|rfl|rfl|rfl|rfl|rfl|rfl|rfl|rfl|rfl
   ·obtain rfl:l0=false:=(by simpa using hc);refine GoJ.load qeP k_g1_0 Yj qeT (ad:=⟨cb,0,none⟩) rfl hW.nS.2.2.2.2 hW.kc hW.kc (YK hW.kc) ?_;rw[k_d1_0,k_put0,k_set0];exact ih t' true l1 l2 l3 l4 l5 l6 l7 (off0 hoff) h2 h4
   ·obtain rfl:l1=false:=(by simpa using hc);refine GoJ.pure k_at1_1 k_g1_1 Yj (fun w=>qcX (b:=b0) k_op1_1 rfl) ?_;rw[k_d1_1,k_put1,k_set1];exact ih t' l0 true l2 l3 l4 l5 l6 l7 (off1 hoff) (fun _=>rfl) h4
   ·obtain⟨rfl,rfl⟩:l2=false/\l1=true:=(by simpa using hc);obtain⟨c,e,f,p,q⟩:=hW.k0;refine GoJ.load (v:=dv) (w0:=wl) k_at1_2 k_g1_2 Yj k_op1_2 (ad:=⟨b0,0,none⟩) rfl hW.nS.1 q p (by rw[hW.kd];exact hW.kl.d) ?_;rw[k_d1_2,k_put2,k_set2];exact ih t' l0 true true l3 l4 l5 l6 l7 (off2 hoff) (fun _=>rfl) (fun h=>⟨rfl,(h4 h).2⟩)
   ·obtain rfl:l3=false:=(by simpa using hc);refine GoJ.map k_at1_3 k_g1_3 Yj hW.bx k_op1_3 ?_;rw[show(mapW w0 false).heap.size=mb from hmb.symm,k_d1_3,k_put3,k_set3];exact ih t' l0 l1 l2 true l4 l5 l6 l7 (off3 hoff) h2 (fun h=>⟨(h4 h).1,rfl⟩)
   ·obtain⟨rfl,rfl,rfl⟩:l4=false/\l2=true/\l3=true:=(by simpa[and_assoc]using hc);refine GoJ.pure k_at1_4 k_g1_4 Yj (fun w=>⟨qei rfl (b:=mb) (y0:=y0) (y1:=y1) (y2:=y2) (y3:=y3) (y4:=y4) qeU hW.kd rfl,qcT (b:=mb) (y0:=y0) (y1:=y1) (y2:=y2) (y3:=y3) (y4:=y4) qeU hW.kd rfl⟩) ?_;rw[k_d1_4,k_put4,k_set4];exact ih t' l0 l1 true true true l5 l6 l7 (off4 hoff) h2 (fun _=>⟨rfl,rfl⟩)
   ·obtain rfl:l5=false:=(by simpa using hc);obtain⟨c,e,f,p,q⟩:=hW.k1;refine GoJ.load (w0:=wl) k_at1_5 k_g1_5 Yj k_op1_5 (ad:=⟨b0+1,0,none⟩) rfl hW.nS.2.1 q p hW.kl.l ?_;rw[k_d1_5,k_put5,k_set5];exact ih t' l0 l1 l2 l3 l4 true l6 l7 (off5 hoff) h2 h4
   ·obtain rfl:l6=false:=(by simpa using hc);obtain⟨c,e,f,p,q⟩:=hW.k2;refine GoJ.load (w0:=wl) k_at1_6 k_g1_6 Yj k_op1_6 (ad:=⟨b0+2,0,none⟩) rfl hW.nS.2.2.1 q p hW.kl.s ?_;rw[k_d1_6,k_put6,k_set6];exact ih t' l0 l1 l2 l3 l4 l5 true l7 (off6 hoff) h2 h4
   ·obtain rfl:l7=false:=(by simpa using hc);obtain⟨c,e,f,p,q⟩:=hW.k3;refine GoJ.load (w0:=wl) k_at1_7 k_g1_7 Yj k_op1_7 (ad:=⟨b0+3,0,none⟩) rfl hW.nS.2.2.2.1 q p hW.kl.m ?_;rw[k_d1_7,k_put7,k_set7];exact ih t' l0 l1 l2 l3 l4 l5 l6 true (off7 hoff) h2 h4
   ·obtain⟨rfl,rfl,rfl,rfl⟩:l4=true/\l5=true/\l6=true/\l7=true:=(by simpa[and_assoc]using hc);obtain⟨rfl,rfl⟩:=h4 rfl;obtain rfl:=h2 rfl;rw[show(#[l0,true,true,true,true,true,true,true,false,false]:Array Bool).setIfInBounds 8 true=#[l0,true,true,true,true,true,true,true,true,false]from rfl,k_left l0 fuel t' hoff]
    have hst:∀w,stepG Tryz.prog false (G (kb.at ⟨kT cb b0 ch mb dv lv sv mv y0 y1 y2 y3 y4 l0 true true true true true true true,[xB ch]⟩ [.inRegion kO1 (8::left l0)]) [qcm]) w=.go (G (Frame.enter Tryz.prog 96 #[.agg #[y0,y1,y2,y3,y4,.map (some mb)],lv,sv,mv] .normal) [kb.at ⟨kT cb b0 ch mb dv lv sv mv y0 y1 y2 y3 y4 l0 true true true true true true true,[xB ch]⟩ [.inRegion kO1 (8::left l0)],qcm]) w #[]:=fun w=>by
     rw[stepG_enter qeQ (by unfold Region.wanted;rw[k_g1_8]) Yj (run_call_body qeV XO (by kernel_rfl) (by kernel_rfl)),k_args];unfold listed;rw[events_call_body qeV XO (by kernel_rfl) (by kernel_rfl),seen_none]
    exact GoJ.ctl rfl hst (Goes.stop fun w1 ⟨d,hd⟩=>⟨l0,d,rfl,hd⟩)
   ·exfalso;simp at hc
end
end Go.Proofs.Tryz
end
section
namespace Go.Proofs.Tryz
open Go Go.Conc Go.Sim Go.RowKit
open Go.ConcN (upd upd_ne upd_same)
theorem k_sched(mixed:Bool)(t:Nat):Region.schedule mixed kO1 t=Region.linearise.go .any kO1 10 t #[false,false,false,false,false,false,false,false,false,false] []:=by
 have h:Region.departs kO1=false:=by kernel_rfl
 simp only[Region.schedule,h,Bool.not_false,Bool.or_true,if_true,Region.linearise,k_size1];rfl
theorem k_loud:(Tryz.prog.funcs[kb.fn]?).any (·.norace)=false:=by kernel_rfl
section
variable {S Bx:Nat->Prop} {cb b0 ch mb:Nat} {dv lv sv mv y0 y1 y2 y3 y4:Value}
theorem kid_way{w0 wl:World}(hmb:mb=w0.heap.size)(hK:KidK S Bx cb b0 ch mb dv lv sv mv y0 y1 y2 y3 y4 w0 wl) :
 GoJ Tryz.prog false S Bx (qbQ cb b0 ch mb dv lv sv mv y0 y1 y2 y3 y4 w0) 17 (born Tryz.prog (qbk cb b0)) w0:=by
 refine GoJ.ctl rfl (k_born cb b0) ?_;rw[k_body];refine GoJ.ctl rfl (fun _=>stepG_seq) ?_;refine GoJ.ctl rfl (fun _=>stepG_region) ?_;rw[k_size0];simp only[List.range,List.range.loop];refine GoJ.load k_at0_0 k_g0_0 Yj k_op0_0 (ad:=⟨cb,0,none⟩) rfl hK.nS.2.2.2.2 hK.kc hK.kc (YK hK.kc) ?_;rw[k_d0_0];change GoJ _ _ _ _ _ _ (G (kb.at ⟨kT cb b0 ch mb dv lv sv mv y0 y1 y2 y3 y4 false false false false false false false false,[]⟩ _) _) _;refine GoJ.ctl rfl (qcP (ch:=ch) rfl) ?_;refine GoJ.ctl rfl (fun _=>stepG_region_end) ?_;refine GoJ.draw fun t=>?_;rw[k_sched];exact kid_ops hmb hK 10 t false false false false false false false false rfl (fun h=>by cases h) (fun h=>by cases h)
def KidSends(ch:Nat)(x:Value)(w0:World)(g:Goroutine)(w:World):Prop :=
 ∃(T:Array Value) (d:Nat),g=G (kb.at ⟨T,[xB ch]⟩ [.inRegion kO1 [9]]) [qcm]/\Go.Act.eval ⟨T,[xB ch]⟩ (.tmp 6)=.chan (some ch)/\Go.Act.eval ⟨T,[xB ch]⟩ (.tmp 14)=x/\w=w0.at d
theorem kid_back{w:World}{l0:Bool}{x:Value}(hS:¬S cb)(hcb:w.heap[cb]? = some (.cells #[.chan (some ch)] 135 (0,0))) :
 GoJ Tryz.prog false S Bx (KidSends ch x w) 1 (G (kb.at (Go.Act.put ⟨kT cb b0 ch mb dv lv sv mv y0 y1 y2 y3 y4 l0 true true true true true true true,[xB ch]⟩ ((kO1[8]?).bind (·.dst)) x) (.inRegion kO1 (left l0)::[])) [qcm]) w:=by
 rw[qeQ,Option.bind_some,k_d1_8]
 cases l0 with
 | true=>exact Goes.stop fun w1 ⟨d,hd⟩=>⟨_,d,rfl,rfl,rfl,hd⟩
 | false =>
   refine GoJ.load qeP k_g1_0 Yj qeT (ad:=⟨cb,0,none⟩) rfl hS hcb hcb (YK hcb) ?_;rw[k_d1_0];exact Goes.stop fun w1 ⟨d,hd⟩=>⟨_,d,rfl,rfl,rfl,hd⟩
theorem qfN{T:Array Value}{ds:List Deferred}{x:Value}{cs:List Frame}(h6:Go.Act.eval ⟨T,ds⟩ (.tmp 6)=.chan (some ch))(h14:Go.Act.eval ⟨T,ds⟩ (.tmp 14)=x)(w:World) :
 stepG Tryz.prog false (G (kb.at ⟨T,ds⟩ [.inRegion kO1 [9]]) cs) w=.comm (core (G (kb.at ⟨T,ds⟩ [.inRegion kO1 [9]]) cs)) #[scase ch x undef] true .send w #[]:=by
 have hr:(execOp (Go.Act.eval ⟨T,ds⟩) (kO 1 9)).run Tryz.prog w=.ok (.comm #[scase ch x undef] true .send) w:=by
  unfold execOp;rw[qeW];simp only[h6,h14];rfl
 have he:(execOp (Go.Act.eval ⟨T,ds⟩) (kO 1 9)).events Tryz.prog w #[]=#[]:=by
  unfold execOp;rw[qeW];simp only[h6,h14];rfl
 rw[stepG_comm qeR (by unfold Region.wanted;rw[k_g1_9]) Yj hr,listed_none he,core_G]
theorem sent{T:Array Value}{ds:List Deferred}{cs:List Frame}:Conc.served (core (G (kb.at ⟨T,ds⟩ [.inRegion kO1 [9]]) cs)) undef=G (kb.at ⟨T,ds⟩ [.inRegion kO1 []]) cs:=by
 rw[core_G,served_G,qeR,Option.bind_some,k_d1_9];rfl
theorem kid_tail(T:Array Value):QuitsD Tryz.prog 2 0 (G { kb.at ⟨T,[]⟩ []with mode:=.returning } [qcm]):=by
 refine QuitsD.ctl (g':=G qcm []) rfl (fun w=>?_) ?_
 ·simp[G,stepG,unwind,doReturn,results,Frame.at,kb,baseD,qcm,Tryz.func104,Tryz.f104,seen,GStep.after,goexitEntry]
 refine QuitsD.ctl (g':={ G qcm []with status:=.finished }) rfl (fun w=>?_) ⟨rfl,rfl⟩;simp[G,stepG,unwind,qcm,goexitEntry,Frame.catches];rfl
theorem qeY(T:Array Value):Closing Tryz.prog ch 2 (G (kb.at ⟨T,[xB ch]⟩ [.inRegion kO1 []]) [qcm]):=by
 refine .ctl rfl (fun _=>stepG_region_end) ?_;refine .ctl rfl (fun _=>stepG_end) ?_;refine .close rfl rfl fun w1 s tm hc=>⟨_,2,?_,kid_tail T⟩;have hr:=run_close_open (P:=Tryz.prog) (w:=w1) #[135] 0 hc;have he:=events_close_open (P:=Tryz.prog) (w:=w1) (es:=#[]) #[135] 0 hc;have hs:seen Tryz.prog kb.fn ((#[].push ⟨.obj ch,false,true⟩).push ⟨.obj ch,true,true⟩)=#[⟨.obj ch,false,true⟩,⟨.obj ch,true,true⟩]:=seen_eq k_loud (by intro e he f;simp at he;rcases he with rfl|rfl<;>simp)
 have hb:(builtin .close #[135] 0 #[false] #[.chan (some ch)]).run Tryz.prog w1=.ok (.value (.tuple #[])) (w1.shut ch s s tm):=by
  show((Builtin.close_ #[135] 0 #[.chan (some ch)]) >>= fun x=>Pure.pure (Next.value x)).run _ _=_;rw[Sem.run_bind,hr];rfl
 have hbe:(builtin .close #[135] 0 #[false] #[.chan (some ch)]).events Tryz.prog w1 #[]=#[⟨.obj ch,false,true⟩,⟨.obj ch,true,true⟩]:=by
  show((Builtin.close_ #[135] 0 #[.chan (some ch)]) >>= fun x=>Pure.pure (Next.value x)).events _ _ _=_;rw[Sem.events_bind,hr,he];rfl
 simp only[G,stepG,unwind,callDeferred,xB,Frame.at,invoke];simp only[Sem.runT_eq,hb,hbe];have hs':seen Tryz.prog kb.fn #[⟨.obj ch,false,true⟩,⟨.obj ch,true,true⟩]=#[⟨.obj ch,false,true⟩,⟨.obj ch,true,true⟩]:=hs;rw[hs'];rfl
end
end Go.Proofs.Tryz
end
section
namespace Go.Sim
open Go Go.Instr Go.Conc
open Go.ConcN (sumTo upd sumTo_upd upd_ne upd_same)
section
variable {P' P:Program} {K Ks:Cfg} {c g:Nat->Bool} {Fin:Goroutine->World->Prop}
variable {Bx:Nat->Prop} {ch:Nat} {z:Value} {ok:Bool} {Q:Goroutine->World->Prop} {j:Nat}
theorem evR_box{R:Nat->Nat->Prop}{e:Event}(h:EvR K R e)(hbx:∀b c,R b c->¬Bx c):∀y,(MemAct.ofEvent e).touch? = some y->Xn Bx y.loc->y.write=false:=fun y hy hb=>by
 exfalso
 cases h with
 | cell ad wr b hr _ =>
   have e1:MemAct.ofEvent ⟨.cell ad,wr,false⟩=.access ⟨.cell ad,wr,false⟩:=(by cases wr<;>rfl);rw[e1]at hy;simp only[MemAct.touch?,Option.some.injEq]at hy;subst hy;exact hbx _ _ hr hb
 | obj r wr b hr _ =>
   have e1:MemAct.ofEvent ⟨.obj r,wr,false⟩=.access ⟨.obj r,wr,false⟩:=(by cases wr<;>rfl);rw[e1]at hy;simp only[MemAct.touch?,Option.some.injEq]at hy;subst hy;exact hbx _ _ hr hb
 | room=>simp[MemAct.ofEvent,MemAct.touch?]at hy
theorem qeZ{Sp:FuncId->Prop}{c0:Nat->Bool}{F:Nat->List Nat}(Z:Cov K P' P c g Sp)(Zs:Cov Ks P' P' c g (fun _=>False))(hC:JI c0 F P')(hSp:∀f,Sp f->c0 f=false){f:FuncId}(hcf:c0 f=true)(hFf:F f=[]){args args':Array Value}{S:Nat->Prop}{R:Nat->Nat->Prop}{w w':World}
 {sb:Frame} {sa:Go.Act} {sops:Array Oper} {si:Nat} {srest:List Nat} {skk:List Item} {scs:List Frame} (hscs:scs≠[]) {bf:Frame} {aa:Go.Act} {ops:Array Oper} {i:Nat} {rest:List Nat} {kk:List Item} {cs:List Frame}
 (hT:LT P' true Fin (G (Frame.enter P' f args .normal) (sb.at sa (.inRegion sops (si::srest)::skk)::scs)) w)
 (hM:MS K Ks P' P g S R (G (Frame.enter P' f args .normal) (sb.at sa (.inRegion sops (si::srest)::skk)::scs)) w w') (hA:AR K.C R args args') (hf:K.C f) (hbx:∀b c,R b c->¬Bx c) (hb:BadK (sb.at sa (.inRegion sops (si::srest)::skk)::scs))
 {gs:Array Goroutine} {sl:Option (Nat×Nat)} {t:Trace} {m:Nat} {qq:Nat->Nat} (hR:RMJ P S Bx ch z ok Q j gs (G (Frame.enter P f args' .normal) (bf.at aa (.inRegion ops (i::rest)::kk)::cs)) w' t m qq) :
 ∃(N:Nat) (gs1:Array Goroutine) (w1':World) (sl1:Option (Nat×Nat)) (t1:Trace) (v v':Value) (w1:World) (R1:Nat->Nat->Prop) (m1:Nat) (qq1:Nat->Nat),runNT P N (crowd gs w' sl) t=(.next (crowd gs1 w1' sl1),t1) /\
  RMJ P S Bx ch z ok Q j gs1 (G (bf.at (aa.put ((ops[i]?).bind (·.dst)) v') (.inRegion ops rest::kk)) cs) w1' t1 m1 qq1 /\
  yD P' (G (Frame.enter P' f args .normal) (sb.at sa (.inRegion sops (si::srest)::skk)::scs)) w (G (sb.at (sa.put ((sops[si]?).bind (·.dst)) v) (.inRegion sops srest::skk)) scs) w1 /\
  LT P' true Fin (G (sb.at (sa.put ((sops[si]?).bind (·.dst)) v) (.inRegion sops srest::skk)) scs) w1/\MS K Ks P' P g S R1 (G (sb.at (sa.put ((sops[si]?).bind (·.dst)) v) (.inRegion sops srest::skk)) scs) w1 w1' /\
  VR K.C R1 v v'/\Ext0 K R R1 w w' w1 w1'/\∀b c,R1 b c->¬Bx c:=by
 have hG:GR K P' P ⟨_,bf.at aa (.inRegion ops (i::rest)::kk)::cs,hb⟩ R (G (Frame.enter P' f args .normal) (sb.at sa (.inRegion sops (si::srest)::skk)::scs)) (G (Frame.enter P f args' .normal) (bf.at aa (.inRegion ops (i::rest)::kk)::cs)):=.mk (FR.enter Z hf (fun h=>by have:=hSp f h;rw[hcf]at this;cases this) hA) (.base rfl);obtain⟨N,R1,q1,w1,gs1,a1,w1',sl1,t1,m1,qq1,r1,hl,hT1,hd,hG1,hM1,hR1,hX,hbx1⟩:=kid_all Z Zs hC hSp hT R gs _ w' sl t m qq hG hM hR hbx ⟨NFr.enter hC hcf (by rw[hFf];intro t ht;cases ht),⟨[],rfl,fun _ h=>by cases h⟩,rfl,rfl,.inl rfl⟩;obtain⟨l1,l2,l3⟩:=hl
 cases hG1 with
 | @mk qa a' kq ka ha hkr =>
   simp only at l1 l2 l3;subst l3
   obtain⟨rfl⟩:ka=bf.at aa (.inRegion ops (i::rest)::kk)::cs:=by
    cases hkr with
    | base _=>rfl
    | over h=>exact absurd h.deeper (Nat.lt_irrefl _)
   obtain⟨v,fn,e1,e2,hB,hTv,hSv⟩:=qfb Zs hT1 hM1.self hscs l1 l2;rw[Frame.finish_at]at hB hTv hSv
   have hback:Goes P false AtRel (fun w w' es=>w.heap.size<=w'.heap.size/\yh Bx w w'/\∀e∈es,EvL (zR S) w'.heap.size e/\∀y,(MemAct.ofEvent e).touch? = some y->Xn Bx y.loc->y.write=false)
    (fun a' w'=>(∃d,w'=w1'.at d)/\∃v',VR K.C R1 v v'/\a'=G (bf.at (aa.put ((ops[i]?).bind (·.dst)) v') (.inRegion ops rest::kk)) cs) 1 { frame:=a',callers:=bf.at aa (.inRegion ops (i::rest)::kk)::cs,status:=.running,dying:=none } w1':=by
    refine Goes.step rfl fun w2 hr=>?_;obtain⟨d,rfl⟩:=hr;have hdf:=ha.defers;obtain⟨Fn,f1,f2,hi⟩:=ha.std
    have hfd:a'.defers=[]:=by
     rw[l2]at hdf;revert hdf;generalize a'.defers=ds;intro hdf;cases hdf;rfl
    have hmd:a'.mode=.returning:=by
     rcases ha.mode with⟨h,_⟩|⟨_,h⟩
     ·rw[l1]at h;cases h
     ·exact h
    have hfn:Fn=fn:=(by rw[e1]at f1;cases f1;rfl);subst hfn
    have hwr:WR (K.at w1.drawn) R1 (w1.tp (fun n z=>w1'.tape (d+(n-w1.drawn)) z)) (w1'.at d):=W0.wr (⟨hM1.w0.fn,hM1.w0.inj,hM1.w0.obj,hM1.w0.fz,hM1.w0.glob,hM1.w0.big,hM1.w0.big'⟩:W0 K R1 (w1.tp (fun n z=>w1'.tape (d+(n-w1.drawn)) z)) (w1'.at d)) _ fun j z _=>by
     show w1'.tape (d+j) z=w1'.tape (d+(w1.drawn+j-w1.drawn)) z;rw[Nat.add_sub_cancel_left]
    obtain⟨R2,v',w2',h1,h2,h3,h4,h5,_⟩:=(qh.results (K:=K.at w1.drawn) (P':=P') (P:=P) Z.toSame Fn ha.tmps _ _ hwr).1 v _ (e2 (fun n z=>w1'.tape (d+(n-w1.drawn)) z)) ql
    obtain rfl:w2'=w1'.at d:=by
     rcases Still.results Fn a'.tmps P (w1'.at d)with⟨_,e⟩|⟨_,e⟩
     ·rw[h1]at e;cases e;rfl
     ·rw[h1]at e;cases e
    have hR2:∀b c,R2 b c->R1 b c:=fun b c hr=>by
     rcases h3.new b c hr with h|⟨_,h⟩
     ·exact h
     ·obtain⟨_,o',_,h6,_⟩:=h2.obj b c hr;have:=(qy h6).1;exact absurd h (Nat.not_le.2 this)
    obtain⟨fn0,ts,td,ds,mode,kind,ro⟩:=a';have hkd:=ha.kind';have hfe:=ha.fn;simp only at hfd hmd hkd hfe h1 h4;subst hfd hmd hkd;have f2':P.funcs[fn0]? = some Fn:=(by rw[hfe];exact f2);have hfin:(bf.at aa (.inRegion ops (i::rest)::kk)).finish v'=bf.at (aa.put ((ops[i]?).bind (·.dst)) v') (.inRegion ops rest::kk):=Frame.finish_at ..
    have hst:stepG P false { frame:={ fn:=fn0,tmps:=ts,todo:=td,defers:=[],mode:=.returning,kind:=.normal,roundOf:=ro },callers:=bf.at aa (.inRegion ops (i::rest)::kk)::cs,status:=.running,dying:=none } (w1'.at d)
     = .go (G (bf.at (aa.put ((ops[i]?).bind (·.dst)) v') (.inRegion ops rest::kk)) cs) (w1'.at d) (seen P fn0 ((Go.results Fn ts).events P (w1'.at d) #[])):=by
     unfold stepG;dsimp only;unfold unwind;simp only[f2',Sem.runT_eq,h1,doReturn];rw[hfin];simp[GStep.after,G]
    rw[hst,goes_go];refine⟨⟨ql,fun _ _=>rfl,fun e he=>⟨qcd (h4 e (mem_seen he)) (fun b c hr=>hM1.shun b c (hR2 b c hr)) (fun b c hr=>?_),evR_box (h4 e (mem_seen he)) fun b c hr=>hbx1 b c (hR2 b c hr)⟩⟩,fun w3 hr3=>?_⟩
    ·obtain⟨_,o',_,h6,_⟩:=h2.obj b c hr;exact(qy h6).1
    ·obtain⟨d',rfl⟩:=hr3;exact⟨⟨d',rfl⟩,v',VR.mono hR2 h5,rfl⟩
   obtain⟨N2,gs2,a2,w2,sl2,t2,m2,qq2,k1,⟨⟨d,rfl⟩,v',k3,rfl⟩,k2⟩:=RMJ.walk (fun _ _ _ h=>h) _ 1 gs1 _ w1' sl1 t1 m1 qq1 ql hR1 hback;refine⟨N+N2,gs2,w1'.at d,sl2,t2,v,v',w1,R1,m2,qq2,zl r1 k1,k2,?_,hTv,⟨⟨hM1.w0.fn,hM1.w0.inj,hM1.w0.obj,hM1.w0.fz,hM1.w0.glob,hM1.w0.big,hM1.w0.big'⟩,hM1.nd,hSv,hM1.glob,hM1.shun,hM1.low,hM1.keep⟩,k3,⟨hX.le,hX.new,hX.size,hX.size',hX.stay,hX.tp',hX.os',hX.out',hX.held⟩,hbx1⟩;obtain⟨tt,x,y,z,z1,z2,z3⟩:=hB;have hBd:=hd.trans (.step tt z1 z2 z3)
   exact hBd.below1 fun e=>by
    have:=congrArg (fun q:Goroutine=>q.callers.length) e;simp[G]at this
theorem MS.other{S S':Nat->Prop}{R:Nat->Nat->Prop}{q:Goroutine}{w w' w2:World}(h:MS K Ks P' P g S R q w w')(hk:∀b c,R b c->w2.heap[c]? = w'.heap[c]?)(hsz:w'.heap.size<=w2.heap.size)(hsh:∀b c,R b c->¬S' c)(hlow:∀c,S' c->c<w2.heap.size):MS K Ks P' P g S' R q w w2:=by
 refine⟨⟨h.w0.fn,h.w0.inj,fun b c hbc=>?_,h.w0.fz,h.w0.glob,h.w0.big,Nat.le_trans h.w0.big' hsz⟩,h.nd,h.self,h.glob,hsh,hlow,fun n hn=>?_⟩
 ·obtain⟨o,o',h1,h2,h3⟩:=h.w0.obj b c hbc;exact⟨o,o',h1,(hk b c hbc).trans h2,h3⟩
 ·obtain⟨h1,h2,h3⟩:=h.keep n hn;exact⟨h1,h2,(hk n n h1).trans h3⟩
end
end Go.Sim
end
section
namespace Go.Proofs.Tryz
open Go Go.Conc Go.Sim Go.RowKit
open Go.ConcN (upd upd_ne upd_same sumTo)
def w0L:List Nat:=[96,65,47,101,59,99,126,125,100,127,60,103,128]
def w0B(f:Nat):Bool:=w0L.contains f
def w0F(f:Nat):List Nat :=
 if f=125 then[1,11]else if f=127 then[1,11]else if f=100 then[1,6]else if f=47 then[78]else if f=99 then[8]else[]
def w0ok(P:Program)(f:Nat):Bool:=match P.funcs[f]? with
 | some fn => !(fn.name == "runtime.NumGoroutine")&&(match fn.body with|some x=>jF w0B w0F f x|none=>false)
 | none=>false
theorem w0_ok:w0L.all (w0ok qp)=true:=by kernel_rfl
theorem w0_code:JI w0B w0F qp:=fun f hf=>by
 have h:=w0_ok;rw[List.all_eq_true]at h;have:=h f (by simpa[w0B]using hf);unfold w0ok at this
 cases e:qp.funcs[f]? with
 | none=>rw[e]at this;cases this
 | some fn =>
   rw[e]at this;simp only[Bool.and_eq_true,Bool.not_eq_true']at this;obtain⟨h1,h2⟩:=this
   cases e2:fn.body with
   | none=>rw[e2]at h2;cases h2
   | some x=>rw[e2]at h2;exact⟨fn,x,rfl,e2,h1,h2⟩
def NewP(B B':Nat)(b c:Nat):Prop:=(∃i,i<4/\b=B+i/\c=B'+i)\/(b=B+4/\c=B'+6)
section
variable {K Ks:Cfg} {c g:Nat->Bool} {Fin:Goroutine->World->Prop}
theorem Yp{C:FuncId->Prop}{R:Nat->Nat->Prop}{xs xs':Array Value}(h:AR C R xs xs')(i:Nat):VR C R (xs.getD i undef) (xs'.getD i undef):=h.getD i VR.undef
theorem agg5_inv{C:FuncId->Prop}{R:Nat->Nat->Prop}{y0 y1 y2 y3 y4 z:Value}(h:VR C R (.agg #[y0,y1,y2,y3,y4]) z):∃z0 z1 z2 z3 z4,z=.agg #[z0,z1,z2,z3,z4]/\VR C R y0 z0/\VR C R y1 z1/\VR C R y2 z2/\VR C R y3 z3/\VR C R y4 z4:=by
 obtain⟨zs,rfl,hz⟩:=h.agg_inv;obtain⟨a,b,c,d,e,rfl⟩:=agg5 hz.size.symm;exact⟨a,b,c,d,e,rfl,hz.el 0 _ _ rfl rfl,hz.el 1 _ _ rfl rfl,hz.el 2 _ _ rfl rfl,hz.el 3 _ _ rfl rfl,hz.el 4 _ _ rfl rfl⟩
theorem tried_w0{R:Nat->Nat->Prop}{w w' w2:World}{xs xs':Array Value}(h:W0 K R w w')(hxs:AR K.C R xs xs')(hA:AtGo w' w2 (xs'.getD 0 undef) (xs'.getD 1 undef) (xs'.getD 2 undef) (xs'.getD 3 undef)) :
 W0 K (Or2 R (NewP w.heap.size w'.heap.size)) ((boxes w (xs.getD 0 undef) (xs.getD 1 undef) (xs.getD 2 undef) (xs.getD 3 undef)).alloc (.map #[] 0)) (w2.alloc (.map #[] 0)):=by
 have hle:∀b c,R b c->Or2 R (NewP w.heap.size w'.heap.size) b c:=fun _ _ h=>.inl h;refine h.add (fun b hb=>by rw[ze _ _ (by rw[zn];omega),QR hb]) (by rw[zm,zn];omega) (fun c hc=>by rw[ze _ _ (by rw[hA.size];omega),hA.low c (by omega),QR hc]) (by rw[zm,hA.size];omega) ?_ ?_ ?_
 ·intro b c hp;rcases hp with⟨i,hi,rfl,rfl⟩|⟨rfl,rfl⟩
  ·refine⟨by omega,by omega,?_⟩;rw[ze _ _ (by rw[zn];omega),ze _ _ (by rw[hA.size];omega),hA.low _ (by omega)]
   match i,hi with
   | 0,_=>exact⟨_,_,Zt,Zt,.cells _ ((Yp hxs 0).mono hle).cells FzR.none⟩
   | 1,_=>exact⟨_,_,Zu,Zu,.cells _ ((Yp hxs 1).mono hle).cells FzR.none⟩
   | 2,_=>exact⟨_,_,Zv,Zv,.cells _ ((Yp hxs 2).mono hle).cells FzR.none⟩
   | 3,_=>exact⟨_,_,Zw,Zw,.cells _ ((Yp hxs 3).mono hle).cells FzR.none⟩
  ·refine⟨by omega,by omega,_,_,?_,?_,OR.map (es:=#[]) (es':=#[]) 0 rfl fun i e e' x=>by simp at x⟩
   ·rw[show w.heap.size+4=(boxes w (xs.getD 0 undef) (xs.getD 1 undef) (xs.getD 2 undef) (xs.getD 3 undef)).heap.size from zn.symm,xQ]
   ·rw[show w'.heap.size+6=w2.heap.size from hA.size.symm,xQ]
 ·intro b c d h k;rcases h with⟨i,_,e1,rfl⟩|⟨e1,rfl⟩<;>rcases k with⟨j,_,e2,rfl⟩|⟨e2,rfl⟩<;>omega
 ·intro b c d h k;rcases h with⟨i,_,rfl,e1⟩|⟨rfl,e1⟩<;>rcases k with⟨j,_,rfl,e2⟩|⟨rfl,e2⟩<;>omega
theorem qbt(Z:Cov K qp Tryz.prog c g (fun f=>f=71))(Zs:Cov Ks qp qp c g (fun _=>False))(hcw:K.C 96):qbS K Ks qp Tryz.prog g (fun f=>f=71) Fin:=by
 intro bs S R q w gs a w' sl t hE hM hR hT hI;obtain⟨f,xs,xs',k,k',rfl,hxs,hk,rfl,rfl⟩:=hE
 obtain⟨cf,cr,cf',cr',rfl,rfl,hcr⟩:∃cf cr cf' cr',k=cf::cr/\k'=cf'::cr'/\cr≠[]:=by
  cases hk with
  | @one a a' _ _=>exact⟨_,_,_,_,rfl,rfl,bs.ne⟩
  | @cons a a' k k' _ h=>exact⟨_,_,_,_,rfl,rfl,by cases h<;>simp⟩
 have hD:SD Ks g Fin { frame:=Frame.enter qp 71 xs .normal,callers:=cf::cr,status:=.running,dying:=none } w (qaQ 17 xs) [.code QO] (cf::cr) w:=by
  have e:G (sb.at ⟨fT 17 (qaQ 17 xs),[]⟩ [.code QO]) (cf::cr)={ frame:=Frame.enter qp 71 xs .normal,callers:=cf::cr,status:=.running,dying:=none }:=by rw[qfT];rfl
  show Dn _ _ _ _ _ _ (G (sb.at ⟨fT 17 (qaQ 17 xs),[]⟩ [.code QO]) (cf::cr)) _;rw[e];exact⟨hT,hM.self,.refl _ _⟩
 have hbad:=hD.bad;obtain⟨v,y0,y1,y2,y3,y4,lv,sv,mv,hL,hD1⟩:=src_walk Zs hD
 have hRA:RM Tryz.prog S gs (G (tb.at ⟨fT 18 (qaQ 18 xs'),[]⟩ [.code Yl]) (cf'::cr')) w' t:=by
  have e:G (tb.at ⟨fT 18 (qaQ 18 xs'),[]⟩ [.code Yl]) (cf'::cr')={ frame:=Frame.enter Tryz.prog 71 xs' .normal,callers:=cf'::cr',status:=.running,dying:=none }:=by rw[qdy];rfl
  rw[e];exact hR
 obtain⟨n0,hgo⟩:=way_go (cs:=cf'::cr') (w:=w') (S:=S) hM.low (v:=qaQ 18 xs') (x0:=xs'.getD 0 undef) (x1:=xs'.getD 1 undef) (x2:=xs'.getD 2 undef) (x3:=xs'.getD 3 undef) rfl rfl rfl rfl;obtain⟨N1,gs1,a1,w1,sl1,t1,run1,hRM1,u,w2,d,rfl,u12,u9,hA,rfl⟩:=RM.walk (sl:=sl) (fun _ _ _ h=>⟨h.1,fun e he=>(h.2.2 e he).1⟩) hRA hgo;have hB0:∀c,S c->c<w'.heap.size:=hM.low;obtain⟨Bx,hBx⟩:∃Bx:Nat->Prop,Bx=fun b=>b=w'.heap.size+4\/b=w'.heap.size+5:=⟨_,rfl⟩
 have bxlt:∀b,Bx b->b<w2.heap.size/\¬S b:=fun b hb=>by
  rw[hBx]at hb;refine⟨by rw[hA.size];omega,fun h=>?_⟩;have:=hB0 b h;omega
 have bch:Bx (w'.heap.size+4):=by rw[hBx];exact .inl rfl
 have bcb:Bx (w'.heap.size+5):=by rw[hBx];exact .inr rfl
 obtain⟨N2,gs2,d2,sl2,t2,j,qq2,run2,hRJ⟩:=RM.fork (sl:=sl1) hRM1 rfl (child:=born Tryz.prog (qbk (w'.heap.size+5) w'.heap.size)) rfl (fun d=>go_step u12 _) (fun b hb=>bxlt b hb) ⟨bch,0,false,hA.ch⟩ (stand1 (w:=w2.at d) bcb hA.cb u9);have hW:=tried_w0 hM.w0 hxs hA;obtain⟨R1,hR1⟩:∃R1,R1=Or2 R (NewP w.heap.size w'.heap.size):=⟨_,rfl⟩;rw[<-hR1]at hW;obtain⟨ws,hws⟩:∃ws,ws=(boxes w (xs.getD 0 undef) (xs.getD 1 undef) (xs.getD 2 undef) (xs.getD 3 undef)).alloc (.map #[] 0):=⟨_,rfl⟩;rw[<-hws]at hL hD1 hW;obtain⟨wt,hwt⟩:∃wt,wt=w2.alloc (.map #[] 0):=⟨_,rfl⟩;rw[<-hwt]at hW;have hsb:∀b,b<w.heap.size+4->ws.heap[b]? = (boxes w (xs.getD 0 undef) (xs.getD 1 undef) (xs.getD 2 undef) (xs.getD 3 undef)).heap[b]? := fun b hb=>by rw[hws];exact ze _ _ (by rw[zn];exact hb)
 have hsz:ws.heap.size=w.heap.size+5:=by rw[hws,zm,zn]
 have htb:∀c,c<w'.heap.size+6->wt.heap[c]? = w2.heap[c]? := fun c hc=>by rw[hwt];exact ze _ _ (by rw[hA.size];exact hc)
 have hsz':wt.heap.size=w'.heap.size+7:=by rw[hwt,zm,hA.size]
 have pr:∀i,i<4->R1 (w.heap.size+i) (w'.heap.size+i):=fun i hi=>by rw[hR1];exact .inr (.inl ⟨i,hi,rfl,rfl⟩)
 have prm:R1 (w.heap.size+4) (w'.heap.size+6):=by rw[hR1];exact .inr (.inr ⟨rfl,rfl⟩)
 have hX0:Ext0 K R R1 w w' ws wt:=⟨fun b c h=>by rw[hR1];exact .inl h,fun b c h=>by
  rw[hR1]at h;rcases h with h|⟨i,hi,rfl,rfl⟩|⟨rfl,rfl⟩
  ·exact .inl h
  ·exact .inr ⟨by omega,by omega⟩
  ·exact .inr ⟨by omega,by omega⟩,by omega,by omega,fun c hc _=>by rw[htb c (by omega),hA.low c (by omega),QR hc],by rw[hwt];exact hA.rest.1,by rw[hwt];exact hA.rest.2.1,by rw[hwt];exact hA.rest.2.2,fun b _ hb=>by rw[hsb b (by omega),QR hb]⟩
 obtain⟨_,z,l28,hz⟩:=QY Z hW (ad:=⟨w.heap.size,0,none⟩) (ad':=⟨w'.heap.size,0,none⟩) ⟨pr 0 (by decide),rfl,rfl⟩ ((hsb w.heap.size (by omega)).trans Zt) hL.d;obtain⟨z0,z1,z2,z3,z4,rfl,r0,r1,r2,r3,r4⟩:=agg5_inv hz;obtain⟨_,lv',l75,hlv⟩:=QY Z hW (ad:=⟨w.heap.size+1,0,none⟩) (ad':=⟨w'.heap.size+1,0,none⟩) ⟨pr 1 (by decide),rfl,rfl⟩ ((hsb (w.heap.size+1) (by omega)).trans Zu) hL.l;obtain⟨_,sv',l87,hsv⟩:=QY Z hW (ad:=⟨w.heap.size+2,0,none⟩) (ad':=⟨w'.heap.size+2,0,none⟩) ⟨pr 2 (by decide),rfl,rfl⟩ ((hsb (w.heap.size+2) (by omega)).trans Zv) hL.s;obtain⟨_,mv',l82,hmv⟩:=QY Z hW (ad:=⟨w.heap.size+3,0,none⟩) (ad':=⟨w'.heap.size+3,0,none⟩) ⟨pr 3 (by decide),rfl,rfl⟩ ((hsb (w.heap.size+3) (by omega)).trans Zw) hL.m
 have hK:KidK S Bx (w'.heap.size+5) w'.heap.size (w'.heap.size+4) (w'.heap.size+6) (.agg #[z0,z1,z2,z3,z4]) lv' sv' mv' z0 z1 z2 z3 z4 w2 wt:=by
  have hS4:∀i,¬S (w'.heap.size+i):=fun i h=>by have:=hB0 _ h;omega
  refine⟨rfl,⟨l28,l75,l87,l82⟩,?_,?_,?_,?_,hA.cb,⟨hS4 0,hS4 1,hS4 2,hS4 3,hS4 5⟩,fun c hc=>(bxlt c hc).1⟩
  ·exact⟨_,_,_,(htb _ (by omega)).trans ((hA.low _ (by omega)).trans Zt),(hA.low _ (by omega)).trans Zt⟩
  ·exact⟨_,_,_,(htb _ (by omega)).trans ((hA.low _ (by omega)).trans Zu),(hA.low _ (by omega)).trans Zu⟩
  ·exact⟨_,_,_,(htb _ (by omega)).trans ((hA.low _ (by omega)).trans Zv),(hA.low _ (by omega)).trans Zv⟩
  ·exact⟨_,_,_,(htb _ (by omega)).trans ((hA.low _ (by omega)).trans Zw),(hA.low _ (by omega)).trans Zw⟩
 obtain⟨N3,gs3,a3,w3,sl3,t3,m3,qq3,run3,⟨l0,d3,rfl,hw3⟩,hRJ3⟩:=RMJ.walk (fun _ _ _ h=>h) _ 17 gs2 _ ((w2.at d).at d2) sl2 t2 _ qq2 ql hRJ (kid_way (w0:=(w2.at d).at d2) (wl:=wt) (hA.size.symm) ⟨hK.kd,hK.kl,hK.k0,hK.k1,hK.k2,hK.k3,hK.kc,hK.nS,hK.bx⟩);have hw3':w3=wt.at d3:=by rw[hw3,hwt];rfl
 rw[hw3']at run3 hRJ3;clear hw3 hw3'
 have bx1:∀b c,R1 b c->¬Bx c:=fun b c h hb=>by
  rw[hBx]at hb;rw[hR1]at h;rcases h with h|⟨i,hi,_,rfl⟩|⟨_,rfl⟩
  ·have:=hM.w0.low h;omega
  ·omega
  ·omega
 have sh1:∀b c,R1 b c->¬S c:=fun b c h hs=>by
  have hs':=hB0 c hs;rw[hR1]at h;rcases h with h|⟨i,hi,_,rfl⟩|⟨_,rfl⟩
  ·exact hM.shun b c h hs
  ·omega
  ·omega
 obtain⟨_,_,_,hnd,_⟩:=id hD1.self;have hX0d:Ext0 K R R1 w w' ws (wt.at d3):=⟨hX0.le,hX0.new,hX0.size,hX0.size',hX0.stay,hX0.tp',hX0.os',hX0.out',hX0.held⟩;have hM1:MS K Ks qp Tryz.prog g S R1 _ ws (wt.at d3):=⟨⟨hW.fn,hW.inj,hW.obj,hW.fz,hW.glob,hW.big,hW.big'⟩,hnd,hD1.self,fun n hn=>by rw[hR1];exact .inl (hM.glob n hn),sh1,fun c hc=>by show c<wt.heap.size;have:=hB0 c hc;omega,Yr hM.keep hM.w0 hX0d⟩
 have hAR:AR K.C R1 #[.agg #[y0,y1,y2,y3,y4,.map (some (w.heap.size+4))],lv,sv,mv] #[.agg #[z0,z1,z2,z3,z4,.map (some (w'.heap.size+6))],lv',sv',mv'] :=
  (((AR.nil.push ((((((AR.nil.push r0).push r1).push r2).push r3).push r4).push (.map prm)).agg).push hlv).push hsv).push hmv
 have hbad2:BadK (sb.at ⟨fT 17 v,[]⟩ (.inRegion sO [11,12]::[.code .ret])::cf::cr):=.cons (fun d hd=>by cases hd) hbad;obtain⟨N4,gs4,w4,sl4,t4,x,x',w4s,R4,m4,qq4,run4,hRJ4,hB4,hT4,hM4,hx,hX4,bx4⟩:=qeZ (sl:=sl3) Z Zs w0_code (fun f hf=>by subst hf;decide) (by decide) (by decide) (List.cons_ne_nil _ _) hD1.lt hM1 hAR hcw bx1 hbad2 hRJ3
 have stay4:∀c,Bx c->w4.heap[c]? = w2.heap[c]? := fun c hc=>by
  have hlt:=(bxlt c hc).1;rw[hA.size]at hlt;rw[hX4.stay c (by show c<wt.heap.size;omega) fun b hb=>absurd hc (bx1 b c hb)];exact htb c hlt
 obtain⟨N5,gs5,a5,w5,sl5,t5,m5,qq5,run5,⟨T,d5,rfl,h6,h14,rfl⟩,hRJ5⟩:=RMJ.walk (fun _ _ _ h=>h) _ 1 gs4 _ w4 sl4 t4 _ qq4 ql hRJ4 (kid_back (cb:=w'.heap.size+5) (hK.nS.2.2.2.2) ((stay4 _ bcb).trans hA.cb));obtain⟨N6,gs6,sl6,t6,g0,d6,s6,tm6,qq6,run6,hQ6,hch6,hRM6⟩:=RMJ.meet rfl _ gs5 _ sl5 t5 m5 qq5 ql (fun d=>qfN h6 h14 _) hRJ5;obtain⟨_,at6⟩:=hQ6 _ (XL _ _);obtain⟨u6,e6,u613,u610,u614⟩:=qaB (y:=x') (op:=true) at6;rw[e6,sent]at hRM6;obtain⟨N7,gs7,sl7,t7,d7,s7,tm7,p7,m7,qq7,run7,hch7,hRD⟩:=RMM.shut (Bx:=fun _=>False) _ gs6 _ _ _ sl6 t6 2 15 qq6 ql hRM6 (stand2 u613 u614) (qeY T) (fun _ h=>h.elim);obtain⟨N8,gs8,sl8,t8,g8,d8,run8,hQ8,hRM8⟩:=RMD.done _ gs7 _ sl7 t7 m7 qq7 ql hRD;obtain⟨u8,e8,u813,u810,u814⟩:=qaB (y:=zI) (op:=false) (hQ8 _ (XL _ _));rw[e8]at hRM8;obtain⟨N9,gs9,a9,w9,sl9,t9,run9,hRM9,rfl,d9,hw9⟩:=RM.walk (sl:=sl8) (fun _ _ _ h=>⟨h.1,fun e he=>(h.2.2 e he).1⟩) hRM8 (way_end (Bx:=fun _=>False) u810 u814)
 have hfin:w9.heap.size=w4.heap.size/\(∀c,c≠w'.heap.size+4->w9.heap[c]? = w4.heap[c]?)/\w9.tape=w4.tape/\w9.os=w4.os/\w9.output=w4.output:=by
  rw[hw9];refine⟨?_,fun c hc=>?_,rfl,rfl,rfl⟩
  ·show((w4.heap.setIfInBounds _ _).setIfInBounds _ _).size=_;simp
  ·show((w4.heap.setIfInBounds _ _).setIfInBounds _ _)[c]? = _;rw[qJ (Ne.symm hc),qJ (Ne.symm hc)]
 obtain⟨f1,f2,f3,f4,f5⟩:=hfin;clear hw9;have hX:Ext0 K R R4 w w' w4s w4:=hX0d.trans hX4;have hX9:Ext0 K R R4 w w' w4s w9:=⟨hX.le,hX.new,hX.size,by rw[f1];exact hX.size',fun c hc h=>by rw[f2 c (by omega)];exact hX.stay c hc h,f3.trans hX.tp',f4.trans hX.os',f5.trans hX.out',hX.held⟩;have ne4:∀b c,R4 b c->c≠w'.heap.size+4:=fun b c h e=>bx4 b c h (e▸bch)
 have hM9:=MS.other (S':=fun c=>S c\/c=w'.heap.size+4) hM4 (w2:=w9) (fun b c h=>f2 c (ne4 b c h)) (by rw[f1];exact ql) (fun b c h hs=>hs.elim (hM4.shun b c h) (ne4 b c h)) (fun c hc=>by
  rw[f1];have h7:=hX4.size';have h8:(wt.at d3).heap.size=wt.heap.size:=rfl;rcases hc with hc|hc
  ·have:=hB0 c hc;omega
  ·omega)
 have hDn:=src_back Zs hcr ⟨hT4,hM4.self,.refl _ _⟩
 have hne:∀(b:Frame) (z:Value),G b (cf::cr)≠G (cf.finish z) cr:=fun b z e=>by
  have:=congrArg (fun y:Goroutine=>y.callers.length) e;simp[G]at this
 have hne1:∀(fr:Frame) (l:Frame),({ frame:=Frame.enter qp 71 xs .normal,callers:=cf::cr,status:=.running,dying:=none }:Goroutine)≠G fr (l::cf::cr):=fun fr l e=>by
  have:=congrArg (fun y:Goroutine=>y.callers.length) e;simp[G]at this
 have hrun:=zl (zl (zl (zl (zl (zl (zl (zl run1 run2) run3) run4) run5) run6) run7) run8) run9;refine qbb hrun (Desc.below_or (hD1.desc.below1 (hne1 _ _)) hB4.desc) hX9 (Sm:=fun c=>S c\/c=w'.heap.size+4) (fun c h=>h.imp id fun h=>by omega) ?_;exact phase_end (P2:=fun _ _=>False) hM9 (hk.mono hX.le) hDn (hne _ _) (fun _ _=>rfl) ql (fun _ _=>rfl) ql (N:=0) rfl hRM9 (fun c h=>.inl h) hM9.low rfl rfl rfl (fun _ _ h=>h.elim) (fun _ _ _ h=>h.elim) (fun _ _ _ h=>h.elim) (VR.mono (fun _ _ h=>.inl h) hx)
end
end Go.Proofs.Tryz
end
section
namespace Go.Proofs.Tryz
open Go Go.Conc Go.Sim Go.RowKit
def cxL:List Nat:=[3,7,8,9,10,11,12,13,14,15,16,17,18,31,84,26,27,20,37,23,38,39,40,41,34,42,43,44,45,46,47,48,49,50,51,52,53,54,55,56,57,58,59,60,61,62,32,63,64,65,66,21,109,76,77,78,79,80,73,81,69,70,72,74,75,85,86,87,88,89,90,91,92,93,94,95,96,97,98,99,100,101,19,102,103,35,105,106,107,108,110,25,111,112,113,114,115,116,117,118,119,120,121,122,123,124,125,126,127,67,68,128,129,130,131,132,133,134,135,136,137,138,139,140,141,142,143,144,145,146,147,148,149,150,151,152,168,170,171,172,173,174,175,176,177,178,179,180,181,182,4,5,6,22,24,28,29,30,33,36,82,83]
def XG(f:Nat):Bool:=cxL.contains f||f==71
def gB(n:Nat):Bool:=n==0
def okB(P:Program)(c:Nat->Bool)(f:Nat):Bool:=match P.funcs[f]? with
 | some fn => !(fn.name == "runtime.NumGoroutine")&&(P.inits.idxOf? f==none)&&(match fn.body with|some x=>zQ P c gB x|none=>false)
 | none=>false
theorem ok_a:cxL.all (okB Tryz.prog XG)=true:=by kernel_rfl
theorem ok_a':(cxL++[71]).all (okB qp XG)=true:=by kernel_rfl
theorem zeros_ok:(Tryz.prog.types.all fun i=>match i.zero with|some v=>zO 8 v||(match v with | .tuple xs=>xs.size==0|_=>false)|none=>true)=true:=by kernel_rfl
theorem qgk{t:TypeId}{i:TypeInfo}{v:Value}(h:Tryz.prog.info? t=some i)(hv:i.zero=some v):jJ v:=by
 refine qeK (T:=Tryz.prog.toTables) (fun k i v hk hv=>?_) h hv;have hz:=zeros_ok;rw[Array.all_eq_true']at hz;have:=hz i (Array.mem_of_getElem? hk);simp only[hv,Bool.or_eq_true]at this;rcases this with h|h
 ·exact fun C R=>VR.plain 8 v h
 ·cases v with
  | tuple xs =>
    have:xs=#[]:=(by simpa using h);rw[this];exact fun C R=>VR.undef
  | _=>cases h
theorem qfQ{P:Program}{k:Nat}(x:Func)(T:Program){f:Nat}(h:k≠f)(hT:T.funcs=P.funcs.setIfInBounds k x):T.funcs[f]? = P.funcs[f]? := by rw[hT];exact qJ h
theorem qaD{f:Nat}(h:f≠71):qp.funcs[f]? = Tryz.prog.funcs[f]? := by
 exact qfQ qfS qp (Ne.symm h) (by kernel_rfl)
theorem qan{P:Program}{c:Nat->Bool}{f:Nat}(h:okB P c f=true):∃fn x,P.funcs[f]? = some fn/\(fn.name == "runtime.NumGoroutine")=false/\P.inits.idxOf? f=none/\fn.body=some x/\zQ P c gB x=true:=by
 unfold okB at h
 cases e:P.funcs[f]? with
 | none=>rw[e]at h;cases h
 | some fn =>
   rw[e]at h;simp only[Bool.and_eq_true,Bool.not_eq_true',beq_iff_eq]at h;obtain⟨⟨h1,h2⟩,h3⟩:=h
   cases e2:fn.body with
   | none=>rw[e2]at h3;cases h3
   | some x=>rw[e2]at h3;exact⟨fn,x,rfl,h1,h2,e2,h3⟩
theorem YB{l:List Nat}{p:Nat->Bool}(h:l.all p=true){f:Nat}(hf:l.contains f=true):p f=true:=by
 rw[List.all_eq_true]at h;exact h f (by simpa using hf)
variable (Fz:Nat->Prop) (bs bt:Array Obj)
theorem Jc{f:Nat}(h:XG f=true):cxL.contains f=true\/f=71:=by
 unfold XG at h;simpa only[Bool.or_eq_true,beq_iff_eq]using h
theorem qec{f:Nat}(h:XG f=true):(cxL++[71]).contains f=true:=by
 rcases Jc h with h|h
 ·rw[List.contains_iff_mem]at h⊢;exact List.mem_append.2 (.inl h)
 ·subst h;rw[List.contains_iff_mem];exact List.mem_append.2 (.inr (List.mem_singleton.2 rfl))
theorem cov_a:Cov (cfgOf qp Tryz.prog XG gB Fz bs bt) qp Tryz.prog XG gB (fun f=>f=71) where
 tables:=zo
 zero:=fun t i v h hv=>qgk h hv
 ng:=rfl
 call:=fun f hf=>by
  obtain⟨fn',x',f1,f2,_,f3,_⟩:=qan (YB ok_a' (qec hf));rcases Jc hf with h|rfl
  ·obtain⟨fn,x,e1,e2,_,e3,_⟩:=qan (YB ok_a h);exact⟨fn',fn,f1,e1,f2,e2,by rw[f3];rfl,by rw[e3];rfl⟩
  ·exact⟨fn',Tryz.f71,f1,ZH,f2,by kernel_rfl,by rw[f3];rfl,by kernel_rfl⟩
 hc:=fun f h=>h
 hD:=fun f x=>Iff.rfl
 body:=fun f hf hs=>by
  rcases Jc hf with h|h
  ·obtain⟨fn,x,e1,e2,e4,e3,e5⟩:=qan (YB ok_a h);exact⟨fn,x,(qaD hs).trans e1,e1,e3,⟨fn,(qaD hs).trans e1,e1,e4⟩,e5⟩
  ·exact absurd h hs
theorem cov_as:Cov (cfgOf qp qp XG gB Fz bs bt) qp qp XG gB (fun _=>False) where
 tables:=rfl
 zero:=fun t i v h hv=>qgk ((qcx t).symm.trans h) hv
 ng:=rfl
 call:=fun f hf=>by
  obtain⟨fn',x',f1,f2,_,f3,_⟩:=qan (YB ok_a' (qec hf));exact⟨fn',fn',f1,f1,f2,f2,by rw[f3];rfl,by rw[f3];rfl⟩
 hc:=fun f h=>h
 hD:=fun f x=>Iff.rfl
 body:=fun f hf _=>by
  obtain⟨fn,x,e1,e2,e4,e3,e5⟩:=qan (YB ok_a' (qec hf));exact⟨fn,x,e1,e1,e3,⟨fn,e1,e1,e4⟩,e5⟩
end Go.Proofs.Tryz
end
