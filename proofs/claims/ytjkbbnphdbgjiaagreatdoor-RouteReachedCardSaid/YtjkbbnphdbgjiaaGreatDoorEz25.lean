/-
  Lemmas about the program and the machine (SimPastJ to SimFork), upon which the last text of this claim rests; no condition.
-/
import Derived.Conc.CrowdRun
import Derived.Conc.TokenTrace
import Derived.Conc.CrowdComm
import Derived.Conc.AppendEvents3
import Derived.Conc.SmallLaws
import Derived.Conc.WgWords
import Derived.Conc.CompanyDraw
import Derived.Conc.TokenWalk
import Derived.Handy
import Derived.Laws.Tables
import Derived.Laws.Build
import Derived.Test.YtjkbbnphdbgjiaaGreatDoorEz24
set_option linter.unusedSimpArgs false
set_option linter.unusedVariables false
section
namespace Go.Sim
open Go Go.Conc
open Go.ConcN (fork_knows Deaf_absent)
structure PastJ (Shun Box:Loc->Prop) (j B:Nat) (t:Trace):Prop where
 clean:∀said,¬Race said t
 known:∀i a,touchAt t i=some a->a.loc.isMemory=true->Knows t j i\/(Shun a.loc/\a.kind=.atomic)\/(Box a.loc/\a.write=false/\t.g? i=some 0)
 box:∀i a,touchAt t i=some a->Box a.loc->a.write=true->Knows t 0 i
 over:∀i g,t.g? i=some g->g≠0->t.counts i->(∃k,t.g? k=some 0/\HappensBefore t i k)\/g=j
 hears:Deaf t 0=0
 hears':Deaf t j=0
 seen:∀op∈t,op.act.low B
section
variable {Shun Box:Loc->Prop} {j B:Nat} {t u:Trace}
theorem gof{t:Trace}{i:Nat}{op:MemOp}(h:t[i]? = some op):t.g? i=some op.g:=by simp[Trace.g?,h]
theorem zN{i:Nat}{a:Touch}(ha:touchAt (t++u) i=some a):(i<t.size/\touchAt t i=some a)\/∃op,op∈u/\(t++u)[i]? = some op/\op.act.touch? = some a:=by
 obtain⟨z,hz,hza⟩:=touch_of ha;rcases getElem?_append_cases hz with⟨hi,hz'⟩|⟨_,hzu⟩
 ·exact .inl ⟨hi,by rw[touchAt_of hz'];exact hza⟩
 ·exact .inr ⟨z,hzu,hz,hza⟩
theorem xq{i:Nat}(hc:(t++u).counts i):(i<t.size/\t.counts i)\/∃op a,op∈u/\(t++u)[i]? = some op/\op.act.touch? = some a:=by
 obtain⟨x,hx,hm,hk⟩:=hc;rcases zN (t:=t) (u:=u) (show touchAt (t++u) i=some x from hx)with⟨h1,_⟩|⟨op,h1,h2,h3⟩
 ·exact .inl ⟨h1,(counts_old h1).1 ⟨x,hx,hm,hk⟩⟩
 ·exact .inr ⟨op,x,h1,h2,h3⟩
theorem jq{i:Nat}{p:Prop}(h:(∃k,t.g? k=some 0/\HappensBefore t i k)\/p):(∃k,(t++u).g? k=some 0/\HappensBefore (t++u) i k)\/p:=by
 rcases h with⟨k,h1,h2⟩|h
 ·have hk:k<t.size:=by
   unfold Trace.g? at h1;obtain⟨z,hz,_⟩:=Option.map_eq_some_iff.1 h1;exact lt_size_of_getElem? hz
  exact .inl ⟨k,by rw[g?_old hk];exact h1,hb_app u h2⟩
 ·exact .inr h
theorem PastJ.mono{B':Nat}(h:PastJ Shun Box j B t)(hB:B<=B'):PastJ Shun Box j B' t:=⟨h.clean,h.known,h.box,h.over,h.hears,h.hears',fun op hop=>MemAct.low_mono hB (h.seen op hop)⟩
theorem PastJ.app(h:PastJ Shun Box j B t)(hu:∀op∈u,op.g=j)(hs:∀op∈u,∀b,op.act.touch? = some b->(Shun b.loc->b.kind≠.plain)/\(Box b.loc->b.write=false))(hd:Deaf (t++u) j=0)(hd0:Deaf (t++u) 0=0)(hl:∀op∈u,op.act.low B):PastJ Shun Box j B (t++u):=by
 refine⟨fun said=>noRace_append (h.clean said) hu fun i a ha op hop b hb hc=>?_,fun i a ha hm=>?_,fun i a ha hb hw=>?_,fun i g hg hne hc=>?_,hd0,hd,seen_app h.seen hl⟩
 ·obtain⟨h1,h2⟩:=hs op hop b hb;obtain⟨c1,c2,c3,c4⟩:=hc;rcases h.known i a ha c2 with hk|⟨hsa,hka⟩|⟨hba,hwa,_⟩
  ·exact hk
  ·have hkb:=h1 (c1▸hsa);rw[hka]at c4;rcases c4 with x|x|⟨_,x,_⟩
   ·cases x
   ·exact absurd x hkb
   ·cases x
  ·rcases c3 with x|x
   ·rw[hwa]at x;cases x
   ·rw[h2 (c1▸hba)]at x;cases x
 ·rcases zN ha with⟨h0,h1⟩|⟨op,h1,h2,h3⟩
  ·exact(h.known i a h1 hm).imp (·.app u) (·.imp id fun⟨x,y,z⟩=>⟨x,y,by rw[g?_old h0];exact z⟩)
  ·have:=knows_own h2;rw[hu op h1]at this;exact .inl this
 ·rcases zN ha with⟨_,h1⟩|⟨op,h1,h2,h3⟩
  ·exact(h.box i a h1 hb hw).app u
  ·rw[(hs op h1 a h3).2 hb]at hw;cases hw
 ·rcases xq hc with⟨h1,h2⟩|⟨op,a,h1,h2,h3⟩
  ·exact jq (h.over i g (by rw[<-g?_old (u:=u) h1];exact hg) hne h2)
  ·refine .inr ?_;rw[gof h2,hu op h1]at hg;exact(qz hg).symm
theorem PastJ.zero(h:PastJ Shun Box j B t)(hj:j≠0)(hu:∀op∈u,op.g=0)(hs:∀op∈u,∀b,op.act.touch? = some b->Box b.loc/\b.write=false)(hd0:Deaf (t++u) 0=0)(hl:∀op∈u,op.act.low B):PastJ Shun Box j B (t++u):=by
 refine⟨fun said=>noRace_append (h.clean said) hu fun i a ha op hop b hb hc=>?_,fun i a ha hm=>?_,fun i a ha hb hw=>?_,fun i g hg hne hc=>?_,hd0,(Deaf_other t (Ne.symm hj) u hu).trans h.hears',seen_app h.seen hl⟩
 ·obtain⟨h1,h2⟩:=hs op hop b hb;obtain⟨c1,c2,c3,c4⟩:=hc;rcases c3 with x|x
  ·exact h.box i a ha (c1▸h1) x
  ·rw[h2]at x;cases x
 ·rcases zN ha with⟨h0,h1⟩|⟨op,h1,h2,h3⟩
  ·exact(h.known i a h1 hm).imp (·.app u) (·.imp id fun⟨x,y,z⟩=>⟨x,y,by rw[g?_old h0];exact z⟩)
  ·obtain⟨x,y⟩:=hs op h1 a h3;exact .inr (.inr ⟨x,y,by rw[gof h2,hu op h1]⟩)
 ·rcases zN ha with⟨_,h1⟩|⟨op,h1,h2,h3⟩
  ·exact(h.box i a h1 hb hw).app u
  ·rw[(hs op h1 a h3).2]at hw;cases hw
 ·rcases xq hc with⟨h1,h2⟩|⟨op,a,h1,h2,h3⟩
  ·exact jq (h.over i g (by rw[<-g?_old (u:=u) h1];exact hg) hne h2)
  ·rw[gof h2,hu op h1]at hg;exact absurd (qz hg).symm hne
theorem PastJ.quiet{g:Nat}(h:PastJ Shun Box j B t)(hu:∀op∈u,op.g=g)(hn:∀op∈u,op.act.touch? = none)(hd0:Deaf (t++u) 0=0)(hd:Deaf (t++u) j=0)(hl:∀op∈u,op.act.low B):PastJ Shun Box j B (t++u):=by
 refine⟨fun said=>noRace_append (h.clean said) hu fun i a _ op hop b hb _=>(by rw[hn op hop]at hb;cases hb),fun i a ha hm=>?_,fun i a ha hb hw=>?_,fun i g hg hne hc=>?_,hd0,hd,seen_app h.seen hl⟩
 ·rcases zN ha with⟨h0,h1⟩|⟨op,h1,h2,h3⟩
  ·exact(h.known i a h1 hm).imp (·.app u) (·.imp id fun⟨x,y,z⟩=>⟨x,y,by rw[g?_old h0];exact z⟩)
  ·rw[hn op h1]at h3;cases h3
 ·rcases zN ha with⟨_,h1⟩|⟨op,h1,h2,h3⟩
  ·exact(h.box i a h1 hb hw).app u
  ·rw[hn op h1]at h3;cases h3
 ·rcases xq hc with⟨h1,h2⟩|⟨op,a,h1,h2,h3⟩
  ·exact jq (h.over i g (by rw[<-g?_old (u:=u) h1];exact hg) hne h2)
  ·rw[hn op h1]at h3;cases h3
theorem PastJ.fork{N:Nat}(h:Past Shun B t)(hN:0<N)(hbx:∀l,Box l->l.isMemory=true/\¬Shun l)(hg:∀(i:Nat) (op:MemOp),t[i]? = some op->op.g<N){x y:MemOp}(hx:x.g=0/\x.act=.go N)(hy:y.g=N/\y.act=.start):PastJ Shun Box N B (t ++ #[x,y]):=by
 have hk:Deaf t N=0:=Deaf_absent fun i op hi e=>by have:=hg i op hi;omega
 have hnt:∀op∈#[x,y],∀b,op.act.touch? = some b->False:=by
  intro op hop b hb;simp only[List.mem_toArray,List.mem_cons,List.not_mem_nil,or_false]at hop;rcases hop with rfl|rfl
  ·rw[hx.2]at hb;cases hb
  ·rw[hy.2]at hb;cases hb
 have hst:∀op∈#[x,y],op.act≠.mark .disable/\op.act≠.mark .enable:=by
  intro op hop;simp only[List.mem_toArray,List.mem_cons,List.not_mem_nil,or_false]at hop;rcases hop with rfl|rfl
  ·rw[hx.2];simp
  ·rw[hy.2];simp
 refine⟨fun said=>?_,fun i a ha hm=>?_,fun i a ha hb hw=>?_,fun i g hgi hne hc=>?_,(Go.ConcN.Deaf_still t 0 _ hst).trans h.hears,(Go.ConcN.Deaf_still t N _ hst).trans hk,seen_app h.seen fun op hop=>?_⟩
 ·have e:t ++ #[x,y]=(t ++ #[x]) ++ #[y]:=by apply Array.ext';simp
  rw[e]
  exact noRace_append (g:=N) (noRace_append (g:=0) (h.clean said) (fun op hop=>by simp at hop;rw[hop];exact hx.1) (fun i a _ op hop b hb _=>(hnt op (by simp at hop⊢;exact .inl hop) b hb).elim))
   (fun op hop=>by simp at hop;rw[hop];exact hy.1) (fun i a _ op hop b hb _=>(hnt op (by simp at hop⊢;exact .inr hop) b hb).elim)
 ·rcases zN ha with⟨_,h1⟩|⟨op,h1,_,h3⟩
  ·exact(h.known i a h1 hm).elim (fun z=>.inl (fork_knows hx hy h.hears hk z)) fun z=>.inr (.inl z)
  ·exact(hnt op h1 a h3).elim
 ·rcases zN ha with⟨_,h1⟩|⟨op,h1,_,h3⟩
  ·rcases h.known i a h1 (hbx _ hb).1 with z|⟨z,_⟩
   ·exact z.app _
   ·exact absurd z (hbx _ hb).2
  ·exact(hnt op h1 a h3).elim
 ·rcases xq hc with⟨h1,h2⟩|⟨op,a,h1,_,h3⟩
  ·exact jq (.inl (h.over i g (by rw[<-g?_old (u:=#[x,y]) h1];exact hgi) hne h2))
  ·exact(hnt op h1 a h3).elim
 ·simp only[List.mem_toArray,List.mem_cons,List.not_mem_nil,or_false]at hop;rcases hop with rfl|rfl
  ·rw[hx.2];trivial
  ·rw[hy.2];trivial
theorem PastJ.back(h:PastJ Shun Box j B t)(hn:∀op∈u,op.act.touch? = none)(hst:∀op∈u,op.act≠.mark .disable/\op.act≠.mark .enable)(hl:∀op∈u,op.act.low B){p q:Nat}(hp:t.size<=p)(hpg:(t++u).g? p=some j)(hqg:(t++u).g? q=some 0)(hpq:HappensBefore (t++u) p q):Past Shun B (t++u):=by
 obtain⟨zp,hzp,hzpg⟩:=Option.map_eq_some_iff.1 hpg;obtain⟨zq,hzq,hzqg⟩:=Option.map_eq_some_iff.1 hqg;have key:∀{i:Nat},Knows t j i->HappensBefore (t++u) i q:=fun hk=>(hk.hb_new hp hzp hzpg).trans hpq;refine⟨fun said=>noRace_appendMute (h.clean said) hn,fun i a ha hm=>?_,fun i g hg hne hc=>?_,(Go.ConcN.Deaf_still t 0 _ hst).trans h.hears,seen_app h.seen hl⟩
 ·rcases zN ha with⟨h0,h1⟩|⟨op,h1,_,h3⟩
  ·rcases h.known i a h1 hm with hk|hk|⟨_,_,hk⟩
   ·exact .inl ⟨q,zq,hzq,hzqg,.inr (key hk)⟩
   ·exact .inr hk
   ·obtain⟨z,hz,hzg⟩:=Option.map_eq_some_iff.1 hk;have:=knows_own hz;rw[hzg]at this;exact .inl (this.app u)
  ·rw[hn op h1]at h3;cases h3
 ·rcases xq hc with⟨h1,h2⟩|⟨op,a,h1,_,h3⟩
  ·have hg':t.g? i=some g:=(by rw[<-g?_old (u:=u) h1];exact hg);rcases jq (u:=u) (h.over i g hg' hne h2)with h4|h4
   ·exact h4
   ·subst h4;obtain⟨z,hz,hzg⟩:=Option.map_eq_some_iff.1 hg';have:=knows_own hz;rw[hzg]at this;exact⟨q,hqg,key this⟩
  ·rw[hn op h1]at h3;cases h3
end
end Go.Sim
end
namespace Go.Sim
open Go Go.Instr Go.Conc
section
variable (c0:Nat->Bool) (F:Nat->List Nat)
def fvB:Value->Bool
 | .func (.func g) _ _=>c0 g&&(F g).isEmpty
 | .func _ _ _=>false
 | _=>true
def qev(f:Nat)(o:Oper):Bool :=
 match o.dst with
 | none=>true
 | some t => !(F f).contains t||(match o.op with | .makeFunc (.func g) _ _=>c0 g&&(F g).isEmpty | .move (.tmp u)=>(F f).contains u|_=>false)
def fargB(f:Nat):Option Operand->Bool
 | none=>true
 | some (.tmp u)=>(F f).contains u
 | some (.func h)=>c0 h&&(F h).isEmpty
 | _=>false
def fopB(f:Nat)(o:Oper):Bool :=
 qev c0 F f o&&match o.op with
 | .call { callee:=.value (.func g),args:=xs,.. }=>c0 g&&(F g).all fun t=>fargB c0 F f xs[t]?
 | .call { callee:=.value (.tmp u),.. }=>(F f).contains u
 | .call { callee:=.builtin b,.. }=>(match b with | .len | .min | .max | .append=>true|_=>false)
 | .call _ | .go _ | .defer _ | .send .. | .recv .. | .select .. | .nilCheck _ | .panic _ | .ready _ | .waits _=>false
 | _=>true
def jF(f:Nat):Code->Bool
 | .skip | .label _ | .exit _ | .ret=>true
 | .region _ ops _=>ops.all (fopB c0 F f)
 | .seq a b=>jF f a&&jF f b
 | .cond _ a b=>jF f a&&jF f b
 | .block _ b | .loop b | .scope b=>jF f b
 | _=>false
def ZX(f:Nat):Item->Bool
 | .code c=>jF c0 F f c
 | .inBlock _ | .inScope _=>true
 | .inLoop b=>jF c0 F f b
 | .inRegion ops _=>ops.all (fopB c0 F f)
 | _=>false
structure NFr (a:Frame):Prop where
 fn:c0 a.fn=true
 tm:∀t∈F a.fn,fvB c0 F (a.tmps.getD t undef)=true
 todo:∀it∈a.todo,ZX c0 F a.fn it=true
 round:a.roundOf=none
 defers:a.defers=[]
 kind:a.kind=.normal
structure NFk (a:Frame):Prop extends NFr c0 F a where
 pend:∀o,a.oper? = some o->∀d,o.dst=some d->d∉F a.fn
structure NG (base:List Frame) (q:Goroutine):Prop where
 fr:NFr c0 F q.frame
 ks:∃ks,q.callers=ks++base/\∀a∈ks,NFk c0 F a
 st:q.status=.running
 dy:q.dying=none
 md:q.frame.mode=.run\/q.frame.mode=.returning
def JI(P:Program):Prop:=∀f,c0 f=true->∃fn x,P.funcs[f]? = some fn/\fn.body=some x/\(fn.name == "runtime.NumGoroutine")=false/\jF c0 F f x=true
end
section
variable {c0:Nat->Bool} {F:Nat->List Nat} {P:Program} {a:Frame} {v:Value}
theorem getD_set{xs:Array Value}{d t:Nat}{v:Value}:(xs.setIfInBounds d v).getD t undef=if d=t/\t<xs.size then v else xs.getD t undef:=by
 by_cases h:t<xs.size
 ·by_cases e:d=t
  ·subst e;simp[Array.getD,h]
  ·simp[Array.getD,h,e,Array.getElem_setIfInBounds]
 ·simp[Array.getD,h]
theorem NFr.finish(h:NFr c0 F a)(hv:fvB c0 F v=true\/∀o,a.oper? = some o->∀d,o.dst=some d->d∉F a.fn):NFr c0 F (a.finish v):=by
 obtain⟨fn,ts,td,ds,mode,kind,ro⟩:=a;obtain⟨h1,h2,h3,h4,h5,h6⟩:=h;simp only at h1 h2 h3 h4 h5 h6
 cases td with
 | nil=>exact⟨h1,h2,h3,h4,h5,h6⟩
 | cons it k =>
   have h0:=h3 it (List.mem_cons_self ..)
   cases it with
   | inRegion ops todo =>
     cases todo with
     | nil=>exact⟨h1,h2,h3,h4,h5,h6⟩
     | cons i rest =>
       refine⟨h1,fun t ht=>?_,fun it hit=>?_,h4,h5,h6⟩
       ·show fvB c0 F (Array.getD (match (ops[i]?).bind (·.dst)with|some d=>ts.setIfInBounds d v|none=>ts) t undef)=true
        cases e:(ops[i]?).bind (·.dst)with
        | none=>exact h2 t ht
        | some d =>
          simp only;rw[getD_set];split
          ·rename_i hd;rcases hv with hv|hv
           ·exact hv
           ·exfalso;obtain⟨o,ho,hod⟩:=Option.bind_eq_some_iff.1 e;exact hv o ho d hod (hd.1▸ht)
          ·exact h2 t ht
       ·rcases List.mem_cons.1 hit with rfl|hit
        ·exact h0
        ·exact h3 it (List.mem_cons_of_mem _ hit)
   | _=>first
     | exact⟨h1,h2,h3,h4,h5,h6⟩
     | (exfalso;simp[ZX]at h0;done)
theorem Zy{id:Nat}:∀{k k':List Item},exitTo id k=some k'->∀x∈k',x∈k
 | [],_,h=>by simp[exitTo]at h
 | it::k,k',h=>fun x hx=>by
   cases it with
   | inBlock id' =>
     simp only[exitTo]at h;split at h
     ·cases h;exact List.mem_cons_of_mem _ hx
     ·exact List.mem_cons_of_mem _ (Zy h x hx)
   | _=>simp only[exitTo]at h;exact List.mem_cons_of_mem _ (Zy h x hx)
theorem NFr.enter(hC:JI c0 F P){f:Nat}{xs:Array Value}(hf:c0 f=true)(hx:∀t∈F f,fvB c0 F (xs.getD t undef)=true):NFr c0 F (Frame.enter P f xs .normal):=by
 obtain⟨fn,x,h1,h2,_,h3⟩:=hC f hf;refine⟨hf,fun t ht=>?_,fun it hit=>?_,rfl,rfl,rfl⟩
 ·show fvB c0 F (Array.getD (xs++_) t undef)=true;have:=hx t ht;by_cases h:t<xs.size
  ·have e:(xs++Array.replicate (((P.funcs[f]?).map (·.ntmps)).getD 0-xs.size) undef).getD t undef=xs.getD t undef:=by
    simp[Array.getD,h,Array.getElem_append,Nat.lt_of_lt_of_le h (Nat.le_add_right _ _)]
   rw[e];exact this
  ·have e:(xs++Array.replicate (((P.funcs[f]?).map (·.ntmps)).getD 0-xs.size) undef).getD t undef=undef:=by
    unfold Array.getD;split
    ·simp[Array.getElem_append,h]
    ·rfl
   rw[e];rfl
 ·simp only[Frame.enter,h1,h2,Option.bind_some,Option.getD_some,List.mem_singleton]at hit;subst hit;exact h3
end
section
variable {c0:Nat->Bool} {F:Nat->List Nat} {P:Program} {f:Nat} {o:Oper} {ev:Operand->Value} {w w1:World} {n:Next}
def OpOut(c0:Nat->Bool)(F:Nat->List Nat)(f:Nat)(o:Oper)(n:Next):Prop :=
 (∃v,n=.value v/\(fvB c0 F v=true\/∀d,o.dst=some d->d∉F f))\/n=.skip \/
 ∃g xs,n=.enter g xs/\c0 g=true/\(∀t∈F g,fvB c0 F (xs.getD t undef)=true)/\∀d,o.dst=some d->d∉F f
theorem qcB{s:Sem Value}(h:(do Pure.pure (Next.value (<-s)):Sem Next).run P w=.ok n w1):∃v,n=.value v:=by
 rw[Sem.run_bind]at h
 cases e:s.run P w with
 | halt a b=>rw[e]at h;simp at h
 | ok v w2=>rw[e]at h;simp at h;exact⟨v,h.1.symm⟩
theorem qgf{s:Sem Unit}(h:(do s;Pure.pure Next.skip:Sem Next).run P w=.ok n w1):n=.skip:=by
 rw[Sem.run_bind]at h
 cases e:s.run P w with
 | halt a b=>rw[e]at h;simp at h
 | ok v w2=>rw[e]at h;simp at h;exact h.1.symm
theorem QS(hC:JI c0 F P){g:Nat}{xs:Array Value}(hg:c0 g=true)(h:(callFunc g xs).run P w=.ok n w1):n=.enter g xs:=by
 obtain⟨fn,x,h1,h2,h3,_⟩:=hC g hg;unfold callFunc at h;simp[h1,h2]at h;have h3':¬fn.name= "runtime.NumGoroutine":=by simpa using h3
 simp[h3']at h;exact h.1.symm
theorem Ju(h:qev c0 F f o=true)(hm:∀g xs ys,o.op≠.makeFunc (.func g) xs ys)(hm2:∀u,o.op≠.move (.tmp u)):∀d,o.dst=some d->d∉F f:=by
 intro d hd hx;unfold qev at h;rw[hd]at h;simp only[Bool.or_eq_true,Bool.not_eq_true']at h;rcases h with h|h
 ·have:(F f).contains d=true:=by simpa using hx
  rw[this]at h;cases h
 ·cases h
theorem op_next(hC:JI c0 F P)(ho:fopB c0 F f o=true)(htm:∀t∈F f,fvB c0 F (ev (.tmp t))=true)(hev:∀h,ev (.func h)=.func (.func h) #[] #[])(hr:(execOp ev o).run P w=.ok n w1):OpOut c0 F f o n:=by
 obtain⟨d,op,ty,pos,aft,gd⟩:=o;unfold fopB at ho;rw[Bool.and_eq_true]at ho;obtain⟨h1,h2⟩:=ho
 cases op with
 | makeFunc fn xs ys =>
   left;unfold execOp at hr;simp[Instr.makeFunc]at hr;refine⟨_,hr.1.symm,?_⟩;by_cases hd:∀d',d=some d'->d'∉F f
   ·exact .inr hd
   ·left;simp only[Classical.not_forall,Classical.not_not]at hd;obtain⟨d',rfl,hx⟩:=hd;unfold qev at h1;have hx':(F f).contains d'=true:=(by simpa using hx);simp only[hx',Bool.not_true,Bool.false_or]at h1
    cases fn with
    | func g=>exact h1
    | _=>cases h1
 | move x =>
   left;unfold execOp at hr;simp at hr;refine⟨_,hr.1.symm,?_⟩;by_cases hd:∀d',d=some d'->d'∉F f
   ·exact .inr hd
   ·left;simp only[Classical.not_forall,Classical.not_not]at hd;obtain⟨d',rfl,hx⟩:=hd;unfold qev at h1;have hx':(F f).contains d'=true:=(by simpa using hx);simp only[hx',Bool.not_true,Bool.false_or]at h1
    cases x with
    | tmp u=>exact htm u (by simpa using h1)
    | _=>cases h1
 | pick cc x y =>
   left;have hnd:=Ju h1 (fun g xs ys e=>by cases e) (fun u e=>by cases e);unfold execOp at hr;simp only[Sem.run_bind]at hr
   cases e:(asBool (ev cc)).run P w with
   | halt a b=>rw[e]at hr;simp at hr
   | ok v w2=>rw[e]at hr;simp at hr;exact⟨_,hr.1.symm,.inr hnd⟩
 | call k =>
   have hnd:=Ju h1 (fun g xs ys e=>by cases e) (fun u e=>by cases e);obtain⟨callee,args,ats⟩:=k;unfold execOp at hr;simp only at hr
   cases callee with
   | value x =>
     cases x with
     | func g =>
       simp only[Bool.and_eq_true,List.all_eq_true]at h2;obtain⟨hg,ha⟩:=h2;right;right;simp[resolve,Deferred.ofValue,hev,invoke]at hr;have e:=QS hC hg hr;refine⟨g,_,e,hg,fun t ht=>?_,hnd⟩;have:=ha t ht;unfold fargB at this
       have eg:(args.map ev).getD t undef=match args[t]? with|some x=>ev x|none=>undef:=by
        cases e:args[t]? with
        | none =>
          have:=Array.getElem?_eq_none_iff.1 e;simp[Array.getD,Nat.not_lt.2 this]
        | some x =>
          obtain⟨hl,hx⟩:=qy e;simp[Array.getD,hl,hx]
       rw[eg]
       cases e:args[t]? with
       | none=>rfl
       | some x =>
         rw[e]at this
         cases x with
         | tmp u=>exact htm u (by simpa using this)
         | func h=>show fvB c0 F (ev (.func h))=true;rw[hev];exact this
         | _=>cases this
     | tmp u =>
       have hu:=htm u (by simpa using h2);right;right;simp only[resolve]at hr
       cases e:ev (.tmp u)with
       | func fn first cap =>
         rw[e]at hu hr
         cases fn with
         | func g =>
           simp only[fvB,Bool.and_eq_true]at hu;simp[Deferred.ofValue,invoke]at hr;have e2:=QS hC hu.1 hr;refine⟨g,_,e2,hu.1,fun t ht=>?_,hnd⟩;have:=List.isEmpty_iff.1 hu.2;rw[this]at ht;cases ht
         | _=>simp[fvB]at hu
       | nilFunc =>
         rw[e]at hr;simp only[Deferred.ofValue,Sem.run_bind,Sem.run_pure,Result.andThen_ok,invoke]at hr;obtain⟨x,w2,e3,_⟩:=zP (α:=Next) .nilDeref P w;rw[e3]at hr;cases hr
       | _ =>
         rw[e]at hr;simp[Deferred.ofValue,invoke,stuck]at hr
     | _=>simp at h2
   | builtin b =>
     left
     cases b<;>first
      | (simp at h2;done)
      | (simp only[resolve,Sem.run_bind,Sem.run_pure,Result.andThen_ok,invoke]at hr
         obtain⟨v,e⟩:=qcB hr
         exact⟨v,e,.inr hnd⟩)
   | _=>simp at h2
 | _=>first
   | (simp at h2;done)
   | (left
      have hnd:=Ju h1 (fun g xs ys e=>by cases e) (fun u e=>by cases e);unfold execOp at hr;simp only at hr;obtain⟨v,e⟩:=qcB hr
      exact⟨v,e,.inr hnd⟩)
   | (right;left
      unfold execOp at hr;simp only at hr
      exact qgf hr)
   | (left
      have hnd:=Ju h1 (fun g xs ys e=>by cases e) (fun u e=>by cases e);unfold execOp at hr;simp at hr
      exact⟨_,hr.1.symm,.inr hnd⟩)
end
section
variable {K:Cfg} {c0:Nat->Bool} {F:Nat->List Nat} {P:Program} {c g:Nat->Bool} {base:List Frame} {q q1:Goroutine} {w w1:World} {es:Array Event}
theorem op_tame(Z:Cov K P P c g (fun _=>False)){a:Frame}{k:List Frame}(hS:Ym K P g { frame:=a,callers:=k,status:=.running,dying:=none } w){ops:Array Oper}{i:Nat}{rest:List Nat}{kk:List Item}{o:Oper}(ht:a.todo=.inRegion ops (i::rest)::kk)(ho:ops[i]? = some o){x:Halt}{w':World}
 (hr:(execOp a.eval o).run P w=.halt x w'):xM x=true:=by
 obtain⟨R,hg,h0,hn,hR⟩:=hS
 cases hg with
 | mk ha hk =>
   have hop:opB P c g o.op=true:=by
    have:=ha.todo;rw[ht]at this
    cases this with
    | cons h1 h2 =>
      cases h1 with
      | inRegion id ops t hD =>
        have:=((Z.hD _ _).1 hD).2;simp only[zQ,Array.all_eq_true']at this;exact this o (Array.mem_of_getElem? ho)
   have hS:=qh.execOp (K:=K.at w'.drawn) (P':=P) (P:=P) (R:=R) (Z.at w'.drawn).toProgs Z.hc o hop (fun hR' x hxo=>ha.eval Z.hc hR hR' x hxo) (fun v=>rfl);have hwr:WR (K.at w'.drawn) R w w:=W0.wr h0 _ fun _ _ _=>rfl;exact((hS w w hwr).2.1 x w' hr ql).2
theorem raise_md{a:Frame}{vs:List PanicEntry}:¬((a.raise vs).mode=.run\/(a.raise vs).mode=.returning):=by
 obtain⟨ch,e⟩:=raise_mode a vs;rw[e];simp
theorem ng_step(Z:Cov K P P c g (fun _=>False))(hC:JI c0 F P)(hS:Ym K P g q w)(hN:NG c0 F base q)(hl:¬yE base q)(hs:stepG P true q w=.go q1 w1 es)(hm:q1.frame.mode=.run\/q1.frame.mode=.returning):NG c0 F base q1:=by
 obtain⟨a,k,st,dy,off⟩:=q;obtain⟨hF,⟨ks,hk,hks⟩,e1,e2,hmd⟩:=hN;simp only at hF hk e1 e2 hmd;subst e1 e2
 have hoff:off=none:=by
  obtain⟨R,hg,_⟩:=hS;cases hg;rfl
 subst hoff;obtain⟨fn,ts,td,ds,mode,kind,ro⟩:=a;have hro:=hF.round;have hds:=hF.defers;have hkd:=hF.kind;simp only at hro hds hkd;subst hro hds hkd;rcases hmd with hmd|hmd
 ·
  simp only at hmd;subst hmd
  have toT:∀{td':List Item} {g1:Goroutine} {w2:World} {e:Array Event},(∀it∈td',it∈td\/ZX c0 F fn it=true)->GStep.go { frame:={ fn:=fn,tmps:=ts,todo:=td',defers:=[],mode:=.run,kind:=.normal,roundOf:=none },callers:=k,status:=.running,dying:=none } w e=.go g1 w2 es->NG c0 F base g1:=by
   intro td' g1 w2 e h1 h2;cases h2;exact⟨⟨hF.fn,hF.tm,fun it hit=>(h1 it hit).elim (hF.todo it) id,rfl,rfl,rfl⟩,⟨ks,hk,hks⟩,rfl,rfl,.inl rfl⟩
  have leave:∀{g1:Goroutine} {w2:World} {e:Array Event},GStep.go { frame:={ fn:=fn,tmps:=ts,todo:=td,defers:=[],mode:=.returning,kind:=.normal,roundOf:=none },callers:=k,status:=.running,dying:=none } w e=.go g1 w2 es->NG c0 F base g1:=by
   intro g1 w2 e h2;cases h2;exact⟨⟨hF.fn,hF.tm,hF.todo,rfl,rfl,rfl⟩,⟨ks,hk,hks⟩,rfl,rfl,.inr rfl⟩
  unfold stepG at hs;simp only[stepG.exec]at hs
  cases td with
  | nil=>exact leave hs
  | cons it kk =>
    have h0:=hF.todo it (List.mem_cons_self ..)
    cases it with
    | code x =>
      cases x with
      | skip=>exact toT (fun it h=>.inl (List.mem_cons_of_mem _ h)) hs
      | label l=>exact toT (fun it h=>.inl (List.mem_cons_of_mem _ h)) hs
      | ret=>exact leave hs
      | seq x y =>
        simp only[ZX,jF,Bool.and_eq_true]at h0
        exact toT (fun it h=>by
         rcases List.mem_cons.1 h with rfl|h
         ·exact .inr h0.1
         ·rcases List.mem_cons.1 h with rfl|h
          ·exact .inr h0.2
          ·exact .inl (List.mem_cons_of_mem _ h)) hs
      | cond t x y =>
        simp only[ZX,jF,Bool.and_eq_true]at h0;simp only at hs;split at hs
        ·rename_i b _
         exact toT (fun it h=>by
          rcases List.mem_cons.1 h with rfl|h
          ·cases b
           ·exact .inr h0.2
           ·exact .inr h0.1
          ·exact .inl (List.mem_cons_of_mem _ h)) hs
        ·cases hs
      | block id x =>
        exact toT (fun it h=>by
         rcases List.mem_cons.1 h with rfl|h
         ·exact .inr h0
         ·rcases List.mem_cons.1 h with rfl|h
          ·exact .inr rfl
          ·exact .inl (List.mem_cons_of_mem _ h)) hs
      | loop x =>
        exact toT (fun it h=>by
         rcases List.mem_cons.1 h with rfl|h
         ·exact .inr h0
         ·rcases List.mem_cons.1 h with rfl|h
          ·exact .inr h0
          ·exact .inl (List.mem_cons_of_mem _ h)) hs
      | scope x =>
        exact toT (fun it h=>by
         rcases List.mem_cons.1 h with rfl|h
         ·exact .inr h0
         ·rcases List.mem_cons.1 h with rfl|h
          ·exact .inr rfl
          ·exact .inl (List.mem_cons_of_mem _ h)) hs
      | exit id =>
        cases e:exitTo id kk with
        | none=>simp[e]at hs
        | some k' =>
          simp only[e,Option.elim]at hs;exact toT (fun it h=>.inl (List.mem_cons_of_mem _ (Zy e it h))) hs
      | region id ops draw =>
        cases draw with
        | false =>
          exact toT (fun it h=>by
           rcases List.mem_cons.1 h with rfl|h
           ·exact .inr h0
           ·exact .inl (List.mem_cons_of_mem _ h)) hs
        | true =>
          simp only[Bool.not_true,Bool.false_eq_true,if_false]at hs;split at hs
          ·simp only[GStep.go.injEq]at hs;obtain⟨rfl,_⟩:=hs;refine⟨⟨hF.fn,hF.tm,fun it h=>?_,rfl,rfl,rfl⟩,⟨ks,hk,hks⟩,rfl,rfl,.inl rfl⟩;rcases List.mem_cons.1 h with rfl|h
           ·exact h0
           ·exact hF.todo it (List.mem_cons_of_mem _ h)
          ·cases hs
      | _=>simp[ZX,jF]at h0
    | inBlock id=>exact toT (fun it h=>.inl (List.mem_cons_of_mem _ h)) hs
    | inScope x=>exact toT (fun it h=>.inl (List.mem_cons_of_mem _ h)) hs
    | inLoop x =>
      exact toT (fun it h=>by
       rcases List.mem_cons.1 h with rfl|h
       ·exact .inr h0
       ·exact .inl h) hs
    | inRegion ops todo =>
      cases todo with
      | nil=>exact toT (fun it h=>.inl (List.mem_cons_of_mem _ h)) hs
      | cons i rest =>
        simp only at hs;split at hs
        ·rename_i hwt
         obtain⟨o,ho⟩:∃o,ops[i]? = some o:=by
          cases e:ops[i]? with
          | none=>rw[e]at hwt;simp at hwt
          | some o=>exact⟨o,rfl⟩
         have hfo:fopB c0 F fn o=true:=by
          have:=h0;simp only[ZX,Array.all_eq_true']at this;exact this o (Array.mem_of_getElem? ho)
         have htame:=fun x w' hr=>op_tame Z hS (rest:=rest) (kk:=kk) rfl ho (x:=x) (w':=w') hr;unfold stepG.oper at hs;simp only[Frame.oper?,ho]at hs;unfold stepG.apply at hs;simp only[Sem.runT_eq,if_true]at hs
         cases e:(execOp (Frame.eval { fn:=fn,tmps:=ts,todo:=.inRegion ops (i::rest)::kk,defers:=[],mode:=.run,kind:=.normal,roundOf:=none }) o).run P w with
         | halt x y =>
           rw[e]at hs;have ht:=htame x y e
           cases x with
           | panic v =>
             simp only[GStep.after,GStep.go.injEq]at hs;obtain⟨rfl,_⟩:=hs;exact absurd hm raise_md
           | stuck m=>simp[GStep.after]at hs
           | unsupported u =>
             cases u<;>first
              | (simp[GStep.after]at hs;done)
              | (simp[xM]at ht;done)
           | _=>simp[xM]at ht
         | ok n y =>
           rw[e]at hs;rcases op_next hC hfo hF.tm (fun h=>rfl) e with⟨v,rfl,hv⟩|rfl|⟨g2,xs,rfl,hg2,hxs,hd2⟩
           ·simp only[GStep.after,GStep.go.injEq]at hs;obtain⟨rfl,_⟩:=hs;refine⟨hF.finish (hv.imp id fun h o' ho'=>?_),⟨ks,hk,hks⟩,rfl,rfl,.inl rfl⟩;rw[show(Frame.oper? { fn:=fn,tmps:=ts,todo:=.inRegion ops (i::rest)::kk,defers:=[],mode:=.run,kind:=.normal,roundOf:=none })=ops[i]? from rfl,ho]at ho';obtain rfl:=qz ho';exact h
           ·simp only[GStep.after,GStep.go.injEq]at hs;obtain⟨rfl,_⟩:=hs;exact⟨hF.finish (.inl rfl),⟨ks,hk,hks⟩,rfl,rfl,.inl rfl⟩
           ·simp only[GStep.after,GStep.go.injEq]at hs;obtain⟨rfl,_⟩:=hs;refine⟨NFr.enter hC hg2 hxs,⟨_::ks,by rw[hk];rfl,fun b hb=>?_⟩,rfl,rfl,.inl rfl⟩;rcases List.mem_cons.1 hb with rfl|hb
            ·refine⟨hF,fun o' ho'=>?_⟩;rw[show(Frame.oper? { fn:=fn,tmps:=ts,todo:=.inRegion ops (i::rest)::kk,defers:=[],mode:=.run,kind:=.normal,roundOf:=none })=ops[i]? from rfl,ho]at ho';obtain rfl:=qz ho';exact hd2
            ·exact hks b hb
        ·simp only[GStep.go.injEq]at hs;obtain⟨rfl,_⟩:=hs;have hfin:=hF.finish (v:=undef) (.inl rfl);exact⟨hfin,⟨ks,hk,hks⟩,rfl,rfl,.inl rfl⟩
    | _=>simp[ZX]at h0
 ·
  simp only at hmd;subst hmd;have hne:ks≠[]:=fun e=>hl ⟨rfl,rfl,by rw[hk,e];rfl⟩
  obtain⟨b,kr,rfl⟩:∃b kr,ks=b::kr:=by
   cases ks with
   | nil=>exact absurd rfl hne
   | cons b kr=>exact⟨b,kr,rfl⟩
  subst hk;unfold stepG at hs;simp only[unwind]at hs;obtain⟨fn',x',hf1,_⟩:=hC fn hF.fn;simp only[hf1,Sem.runT_eq]at hs;have hb:=hks b (List.mem_cons_self ..)
  cases e:(results fn' ts).run P w with
  | halt x y=>rw[e]at hs;cases x<;>simp[GStep.after]at hs
  | ok v y =>
    rw[e]at hs;simp only[doReturn,List.cons_append,GStep.after,GStep.go.injEq]at hs;obtain⟨rfl,_⟩:=hs;exact⟨hb.toNFr.finish (.inr hb.pend),⟨kr,rfl,fun a ha=>hks a (List.mem_cons_of_mem _ ha)⟩,rfl,rfl,hm⟩
end
theorem Ym.tp{K:Cfg}{P:Program}{g:Nat->Bool}{q:Goroutine}{w:World}(h:Ym K P g q w)(t:Nat->Question->Nat):Ym K P g q (w.tp t):=by
 obtain⟨R,hg,hw,hn,hR⟩:=h;exact⟨R,hg,⟨hw.fn,hw.inj,hw.obj,hw.fz,hw.glob,hw.big,hw.big'⟩,hn,hR⟩
end Go.Sim
section
namespace Go.Sim
open Go Go.Instr Go.Conc
open Go.ConcN (sumTo upd sumTo_upd upd_ne upd_same)
def Xn(Bx:Nat->Prop):Loc->Prop
 | .cell a=>Bx a.block
 | .obj r=>Bx r
 | _=>False
def yh(Bx:Nat->Prop)(w w1:World):Prop:=∀b,Bx b->w1.heap[b]? = w.heap[b]?
def EvB(Bx:Nat->Prop)(e:Event):Prop:=(∀x,(MemAct.ofEvent e).touch? = some x->Xn Bx x.loc/\x.write=false)/\e.loc≠.mark .disable/\e.loc≠.mark .enable/\∀B,(∀b,Bx b->b<B)->(MemAct.ofEvent e).low B
section
variable (P:Program) (Bx:Nat->Prop) (ch:Nat) (z:Value) (ok:Bool) (Q:Goroutine->World->Prop)
inductive Stand:Nat->Goroutine->World->Prop
 | parked {g0:Goroutine} {w:World}:(∀w1,yh Bx w w1->Q g0 w1)->Stand 0 (parked (core g0) #[rcase ch z] (.recv ok)) w
 | ready {a:Goroutine} {w:World}:a.status=.running->(∀w1,yh Bx w w1->Q a w1/\stepG P true a w1=.comm (core a) #[rcase ch z] true (.recv ok) w1 #[])->Stand 1 a w
 | step {n:Nat} {a:Goroutine} {w:World} (f:World->Goroutine) (dd:World->Nat) (ee:World->Array Event):a.status=.running->(∀w1,yh Bx w w1->stepG P true a w1=.go (f w1) (w1.at (dd w1)) (ee w1)/\∀e∈ee w1,EvB Bx e)->(∀w1,yh Bx w w1->Stand (n+1) (f w1) w1)->Stand (n+2) a w
end
section
variable {P:Program} {Bx:Nat->Prop} {ch:Nat} {z:Value} {ok:Bool} {Q:Goroutine->World->Prop} {n:Nat} {a:Goroutine} {w w1:World}
theorem yh.trans{w2:World}(h:yh Bx w w1)(k:yh Bx w1 w2):yh Bx w w2:=fun b hb=>(k b hb).trans (h b hb)
theorem Stand.keep(h:Stand P Bx ch z ok Q n a w)(k:yh Bx w w1):Stand P Bx ch z ok Q n a w1:=by
 cases h with
 | parked hq=>exact .parked fun w2 k2=>hq w2 (k.trans k2)
 | ready hr hq=>exact .ready hr fun w2 k2=>hq w2 (k.trans k2)
 | step f dd ee hr hs hn=>exact .step f dd ee hr (fun w2 k2=>hs w2 (k.trans k2)) fun w2 k2=>hn w2 (k.trans k2)
theorem Stand.woken{x x':Goroutine}{s r:Nat}{tm:Bool}(h:Stand P Bx ch z ok Q n a w)(hc:w1.heap[ch]? = some (.chan 0 #[] false s r tm)):woken P x x' w1 a=a:=by
 cases h with
 | parked hq=>exact woken_recv_open _ _ hc
 | ready hr _=>exact woken_run hr
 | step _ _ _ hr _ _=>exact woken_run hr
theorem Stand.awake(h:Stand P Bx ch z ok Q n a w):awake a:=by
 cases h with
 | parked hq=>intro t h;cases h
 | ready hr _=>exact awake_of (.inl hr)
 | step _ _ _ hr _ _=>exact awake_of (.inl hr)
end
structure RMJ (P:Program) (S Bx:Nat->Prop) (ch:Nat) (z:Value) (ok:Bool) (Q:Goroutine->World->Prop) (j:Nat) (gs:Array Goroutine) (a:Goroutine) (w':World) (t:Trace) (m:Nat) (qq:Nat->Nat):Prop where
 here:gs[j]? = some a
 jpos:0<j
 zero:∃a0,gs[0]? = some a0/\Stand P Bx ch z ok Q m a0 w'
 old:∀i g,0<i->i≠j->gs[i]? = some g->QuitsD P (qq i) (Deaf t i) g
 above:∀i,gs.size<=i->Deaf t i=0
 past:PastJ (zR S) (Xn Bx) j w'.heap.size t
 nums:∀(i:Nat) (op:MemOp),t[i]? = some op->op.g<gs.size
 bx:∀b,Bx b->b<w'.heap.size
 chan:Bx ch/\∃s tm,w'.heap[ch]? = some (.chan 0 #[] false s s tm)
section
variable {P:Program} {K Ks:Cfg} {c g:Nat->Bool} {bs:Bs} {P':Program} {Fin:Goroutine->World->Prop}
variable {S Bx:Nat->Prop} {ch:Nat} {z:Value} {ok:Bool} {Q:Goroutine->World->Prop} {j:Nat}
theorem RMJ.awake{gs:Array Goroutine}{a:Goroutine}{w':World}{t:Trace}{m:Nat}{qq:Nat->Nat}(h:RMJ P S Bx ch z ok Q j gs a w' t m qq)(hrun:a.status=.running):∀x∈gs,Conc.awake x:=by
 intro x hx;obtain⟨i,hi,rfl⟩:=Array.mem_iff_getElem.1 hx;by_cases e0:i=0
 ·subst e0;obtain⟨a0,h0,hs⟩:=h.zero;have:gs[0]=a0:=by simpa[Array.getElem?_eq_getElem hi]using h0
  rw[this];exact hs.awake
 ·by_cases ej:i=j
  ·subst ej;have:gs[i]=a:=(by simpa[Array.getElem?_eq_getElem hi]using h.here);rw[this];exact awake_of (.inl hrun)
  ·exact awake_of ((h.old i _ (by omega) ej (Array.getElem?_eq_getElem hi)).status.elim .inl fun x=>.inr (.inr x))
theorem RMJ.slip{gs:Array Goroutine}{a:Goroutine}{w':World}{t:Trace}{m:Nat}{qq:Nat->Nat}(hR:RMJ P S Bx ch z ok Q j gs a w' t m qq)(hrun:a.status=.running){i d:Nat}{x:Goroutine}{sl':Option (Nat×Nat)}(hi:gs[i]? = some x)(hx:x.status=.running)(ej:i≠j) :
 ∃gs2 t2 d2 m2 qq2,runT P (crowd gs (w'.at d) sl') i=(.next (crowd gs2 (w'.at d2) sl'),t2)/\m2+sumTo gs2.size qq2<m+sumTo gs.size qq/\RMJ P S Bx ch z ok Q j gs2 a (w'.at d2) (t++t2) m2 qq2:=by
 have hltj:j<gs.size:=(qy hR.here).1;have hlt0:0<gs.size:=by omega
 obtain⟨hbch,cs,ctm,hch⟩:=hR.chan;obtain⟨a0,h0,hS0⟩:=hR.zero;have hj0:j≠0:=by have:=hR.jpos;omega
 have hlt:i<gs.size:=(qy hi).1;by_cases e0:i=0
 ·subst e0;obtain rfl:x=a0:=by rw[h0]at hi;exact(qz hi).symm
  have hkd:yh Bx w' (w'.at d):=fun _ _=>rfl
  cases hS0 with
  | parked hq=>cases hx
  | ready hr hq =>
    obtain⟨_,hcomm⟩:=hq (w'.at d) hkd
    have hp:partners (gs.setIfInBounds 0 ph) ch true=[]:=by
     refine List.eq_nil_iff_forall_not_mem.2 fun⟨k,n⟩ hm=>?_;obtain⟨y,hy,ho⟩:=mem_partners.1 hm;rcases getElem?_stand gs 0 k y hy with⟨_,rfl⟩|⟨hk,hy⟩
     ·rw[offersAt_ph]at ho;cases ho
     ·have:y.status≠.blocked:=by
       by_cases ek:k=j
       ·subst ek;rw[hR.here]at hy;cases hy;rw[hrun];simp
       ·rcases(hR.old k y (by omega) ek hy).status with e|e<;>rw[e]<;>simp
      rw[offersAt_of_not_blocked this]at ho;cases ho
    have hr1:=crowd_waits (sl:=sl') hi (show stepG P (0==0) x (w'.at d)=_ from hcomm) (fun cc hcc=>by
     simp at hcc;subst hcc
     exact ways_recv_none (show(w'.at d).heap[ch]? = _ from hch) hp)
    have hnil:MemOp.ofEvents 0 x.frame.fn x.frame.place #[]=#[]:=(by rw[ofEvents_eq];simp);rw[hnil]at hr1;refine⟨_,#[],d,0,qq,hr1,by simp,?_⟩;rw[Array.append_empty]
    exact⟨by rw[qJ (Ne.symm hj0)];exact hR.here,hR.jpos,⟨_,Array.getElem?_setIfInBounds_self_of_lt hlt,.parked fun w1 k1=>(hq w1 k1).1⟩,fun k y hk hkj hy=>by
     rw[qJ (by omega)]at hy
     exact hR.old k y hk hkj hy,fun k hk=>hR.above k (by simpa using hk),hR.past,fun k op hop=>by simpa using hR.nums k op hop,hR.bx,hR.chan⟩
  | @step n' _ _ f dd ee hr hs hn =>
    obtain⟨hgo,hev⟩:=hs (w'.at d) hkd;have hst':=hn (w'.at d) hkd
    generalize f (w'.at d)=a' at *
    generalize dd (w'.at d)=d' at *
    generalize ee (w'.at d)=es at *
    have hrunT:=runT_crowd_go (P:=P) (sl:=sl') (i:=0) hi (show stepG P (0==0) x (w'.at d)=_ from hgo);have hown:∀op∈MemOp.ofEvents 0 x.frame.fn x.frame.place es,op.g=0:=fun op hop=>(by obtain⟨_,_,rfl⟩:=Go.Conc.mem_ofEvents hop;rfl);refine⟨_,_,d',n'+1,qq,hrunT,by simp,?_⟩;refine⟨?_,hR.jpos,⟨a',Array.getElem?_setIfInBounds_self_of_lt (by simpa using hlt),hst'.keep fun _ _=>rfl⟩,fun k y hk hkj hy=>?_,fun k hk=>?_,?_,zu hR.nums (by simp) (fun op hop=>by rw[hown op hop];simpa using hlt),hR.bx,hR.chan⟩
    ·rw[qJ (Ne.symm hj0),Array.getElem?_map,hR.here,Option.map_some,woken_run hrun]
    ·rw[qJ (by omega),Array.getElem?_map]at hy;obtain⟨v,hv,rfl⟩:=Option.map_eq_some_iff.1 hy;have hq:=hR.old k v hk hkj hv;rw[woken_quitsD hq,Deaf_other t (by omega) _ hown];exact hq
    ·rw[Deaf_other t (g':=0) (by simp at hk;omega) _ hown];exact hR.above k (by simpa using hk)
    ·refine hR.past.zero hj0 hown (fun op hop b hb=>?_) ?_ (fun op hop=>?_)
     ·obtain⟨ev,hev',rfl⟩:=Go.Conc.mem_ofEvents hop;exact(hev ev hev').1 b hb
     ·rw[Deaf_own,deafBehind_still fun ev hev'=>⟨(hev ev hev').2.1,(hev ev hev').2.2.1⟩];exact hR.past.hears
     ·obtain⟨ev,hev',rfl⟩:=Go.Conc.mem_ofEvents hop;exact(hev ev hev').2.2.2 _ hR.bx
 ·
  have hq1:=hR.old i x (by omega) ej hi;have hi0:(i==0)=false:=by simp;omega
  cases hqi:qq i with
  | zero=>rw[hqi]at hq1;rw[hq1.1]at hx;cases hx
  | succ k =>
    rw[hqi]at hq1;rcases hq1 with⟨hf,_⟩|⟨_,g',es,hm,hstp,hq'⟩
    ·rw[hf]at hx;cases hx
    have hrunT:=runT_crowd_go (P:=P) (sl:=sl') (i:=i) hi (by rw[hi0];exact hstp (w'.at d))
    have hsum:sumTo gs.size (upd qq i k)+(k+1)=sumTo gs.size qq+k:=by
     have:=sumTo_upd qq k id hlt;simpa[hqi]using this
    have hown:∀op∈MemOp.ofEvents i x.frame.fn x.frame.place es,op.g=i:=fun op hop=>(by obtain⟨_,_,rfl⟩:=Go.Conc.mem_ofEvents hop;rfl);refine⟨_,_,d,m,upd qq i k,hrunT,by simp;omega,?_⟩;refine⟨?_,hR.jpos,⟨a0,?_,hS0.keep fun _ _=>rfl⟩,fun k' y hk hkj hy=>?_,fun k' hk=>?_,?_,zu hR.nums (by simp) (fun op hop=>by rw[hown op hop];simpa using hlt),hR.bx,hR.chan⟩
    ·rw[qJ ej,Array.getElem?_map,hR.here,Option.map_some,woken_run hrun]
    ·rw[qJ e0,Array.getElem?_map,h0,Option.map_some,hS0.woken (show(w'.at d).heap[ch]? = _ from hch)]
    ·by_cases hji:i=k'
     ·subst hji;rw[Array.getElem?_setIfInBounds_self_of_lt (by simpa using hlt)]at hy;obtain rfl:=qz hy;rw[upd_same,Deaf_own];exact hq'
     ·rw[qJ hji,Array.getElem?_map]at hy;obtain⟨v,hv,rfl⟩:=Option.map_eq_some_iff.1 hy;have hqj:=hR.old k' v hk hkj hv;rw[woken_quitsD hqj,upd_ne qq k (Ne.symm hji),Deaf_other t hji _ hown];exact hqj
    ·rw[Deaf_other t (g':=i) (by simp at hk;omega) _ hown];exact hR.above k' (by simpa using hk)
    ·refine hR.past.quiet hown (fun op hop=>?_) ?_ ?_ (fun op hop=>?_)
     ·obtain⟨ev,hev,rfl⟩:=Go.Conc.mem_ofEvents hop;exact touch_mute (hm ev hev)
     ·rw[Deaf_other t e0 _ hown];exact hR.past.hears
     ·rw[Deaf_other t ej _ hown];exact hR.past.hears'
     ·obtain⟨ev,hev,rfl⟩:=Go.Conc.mem_ofEvents hop;exact low_mute (hm ev hev) _
theorem RMJ.own{gs:Array Goroutine}{a a1:Goroutine}{w' w1':World}{t:Trace}{m d:Nat}{qq:Nat->Nat}{es':Array Event}(hR:RMJ P S Bx ch z ok Q j gs a w' t m qq)(hgo:stepG P false a (w'.at d)=.go a1 w1' es')(hsz:w'.heap.size<=w1'.heap.size)(hkeep:yh Bx w' w1')
 (hevs:∀ev∈es',EvL (zR S) w1'.heap.size ev) (hevb:∀ev∈es',∀y,(MemAct.ofEvent ev).touch? = some y->Xn Bx y.loc->y.write=false) (sl':Option (Nat×Nat)) :
 ∃gs2,runT P (crowd gs (w'.at d) sl') j=(.next (crowd gs2 w1' sl'),MemOp.ofEvents j a.frame.fn a.frame.place es')/\gs2.size=gs.size/\RMJ P S Bx ch z ok Q j gs2 a1 w1' (t++MemOp.ofEvents j a.frame.fn a.frame.place es') m qq:=by
 have hltj:j<gs.size:=(qy hR.here).1;obtain⟨hbch,cs,ctm,hch⟩:=hR.chan;obtain⟨a0,h0,hS0⟩:=hR.zero;have hj0:j≠0:=by have:=hR.jpos;omega
 have hi0:(j==0)=false:=by simp;omega
 have hrunT:=runT_crowd_go (P:=P) (sl:=sl') (i:=j) hR.here (show stepG P (j==0) a (w'.at d)=_ by rw[hi0];exact hgo);have hown:∀op∈MemOp.ofEvents j a.frame.fn a.frame.place es',op.g=j:=fun op hop=>by obtain⟨_,_,rfl⟩:=Go.Conc.mem_ofEvents hop;rfl
 refine⟨_,hrunT,by simp,?_⟩;refine⟨by simp[hltj],hR.jpos,⟨a0,?_,hS0.keep hkeep⟩,fun k y hk hkj hy=>?_,fun k hk=>?_,?_,zu hR.nums (by simp) (fun op hop=>by rw[hown op hop];simpa using hltj),fun b hb=>Nat.lt_of_lt_of_le (hR.bx b hb) hsz,⟨hbch,cs,ctm,(hkeep ch hbch).trans hch⟩⟩
 ·rw[qJ hj0,Array.getElem?_map,h0,Option.map_some,hS0.woken ((hkeep ch hbch).trans hch)]
 ·rw[qJ (Ne.symm hkj),Array.getElem?_map]at hy;obtain⟨v,hv,rfl⟩:=Option.map_eq_some_iff.1 hy;have hq:=hR.old k v hk hkj hv;rw[woken_quitsD hq,Deaf_other t (Ne.symm hkj) _ hown];exact hq
 ·rw[Deaf_other t (g':=j) (by simp at hk;omega) _ hown];exact hR.above k (by simpa using hk)
 ·refine(hR.past.mono hsz).app hown (fun op hop b hb=>?_) ?_ ?_ (fun op hop=>?_)
  ·obtain⟨ev,hev,rfl⟩:=Go.Conc.mem_ofEvents hop;exact⟨(hevs ev hev).1 b hb,hevb ev hev b hb⟩
  ·rw[Deaf_own,deafBehind_still fun ev hev=>⟨(hevs ev hev).2.1,(hevs ev hev).2.2.1⟩];exact hR.past.hears'
  ·rw[Deaf_other t hj0 _ hown];exact hR.past.hears
  ·obtain⟨ev,hev,rfl⟩:=Go.Conc.mem_ofEvents hop;exact(hevs ev hev).2.2.2
theorem RMJ.walk{D:World->World->Array Event->Prop}{Stop:Goroutine->World->Prop}(hD:∀w w' es,D w w' es->w.heap.size<=w'.heap.size/\yh Bx w w'/\∀e∈es,EvL (zR S) w'.heap.size e/\∀y,(MemAct.ofEvent e).touch? = some y->Xn Bx y.loc->y.write=false) :
 ∀(M n:Nat) (gs:Array Goroutine) (a:Goroutine) (w':World) (sl:Option (Nat×Nat)) (t:Trace) (m:Nat) (qq:Nat->Nat),n+(m+sumTo gs.size qq)<=M->RMJ P S Bx ch z ok Q j gs a w' t m qq->Goes P false AtRel D Stop n a w' ->
  ∃(N:Nat) (gs1:Array Goroutine) (a1:Goroutine) (w1':World) (sl1:Option (Nat×Nat)) (t1:Trace) (m1:Nat) (qq1:Nat->Nat),runNT P N (crowd gs w' sl) t=(.next (crowd gs1 w1' sl1),t1)/\Stop a1 w1'/\RMJ P S Bx ch z ok Q j gs1 a1 w1' t1 m1 qq1:=by
 intro M
 induction M with
 | zero =>
   intro n gs a w' sl t m qq hM hR hG;obtain rfl:n=0:=(by omega);exact⟨0,gs,a,w',sl,t,m,qq,rfl,hG w' (atRel_refl w'),hR⟩
 | succ M ih =>
   intro n gs a w' sl t m qq hM hR hG
   cases n with
   | zero=>exact⟨0,gs,a,w',sl,t,m,qq,rfl,hG w' (atRel_refl w'),hR⟩
   | succ n =>
     rcases hG with hstop|⟨hrun,hstep⟩
     ·exact⟨0,gs,a,w',sl,t,m,qq,rfl,hstop w' (atRel_refl w'),hR⟩
     obtain⟨i,x,d,sl',hi,hx,hst⟩:=crowd_pick (P:=P) (w:=w') (sl:=sl) (hR.awake hrun) ⟨j,a,hR.here,hrun⟩;by_cases ej:i=j
     ·subst ej;obtain rfl:x=a:=(by rw[hR.here]at hi;exact(qz hi).symm);have hs:=hstep (w'.at d) ⟨d,rfl⟩
      cases hgo:stepG P false x (w'.at d)with
      | go a1 w1' es =>
        rw[hgo,goes_go]at hs;obtain⟨hd,hG'⟩:=hs;obtain⟨d1,d2,d3⟩:=hD _ _ _ hd;obtain⟨gs2,h1,h2,h3⟩:=hR.own hgo d1 d2 (fun e he=>(d3 e he).1) (fun e he=>(d3 e he).2) sl';obtain⟨N,gs1,a2,w2,sl2,t2,m2,qq2,r1,r2,r3⟩:=ih n gs2 a1 w1' sl' _ m qq (by rw[h2];omega) h3 hG';exact⟨N+1,gs1,a2,w2,sl2,t2,m2,qq2,by simp only[runNT,hst,h1];exact r1,r2,r3⟩
      | _=>rw[hgo]at hs;exact hs.elim
     ·obtain⟨gs2,t2,d2,m2,qq2,h1,h2,h3⟩:=hR.slip hrun (d:=d) (sl':=sl') hi hx ej;have hG2:Goes P false AtRel D Stop (n+1) a (w'.at d2):=.inr ⟨hrun,fun w2 h=>hstep w2 (atRel_trans _ _ _ ⟨d2,rfl⟩ h)⟩;obtain⟨N,gs1,a2,w2,sl2,t3,m3,qq3,r1,r2,r3⟩:=ih (n+1) gs2 a (w'.at d2) sl' _ m2 qq2 (by omega) h3 hG2;exact⟨N+1,gs1,a2,w2,sl2,t3,m3,qq3,by simp only[runNT,hst,h1];exact r1,r2,r3⟩
theorem kid_step{Sp:FuncId->Prop}{c0:Nat->Bool}{F:Nat->List Nat}(Z:Cov K P' P c g Sp)(Zs:Cov Ks P' P' c g (fun _=>False))(hC:JI c0 F P')(hSp:∀f,Sp f->c0 f=false){q:Goroutine}{w:World}(hT:LT P' true Fin q w){R:Nat->Nat->Prop}{a:Goroutine}(hG:GR K P' P bs R q a)(hN:NG c0 F bs.src q)(hla:¬yE bs.src q)(hbx:∀b c,R b c->¬Bx c) :
 ∀(M:Nat) (gs:Array Goroutine) (w':World) (sl:Option (Nat×Nat)) (t:Trace) (m:Nat) (qq:Nat->Nat),m+sumTo gs.size qq<=M->MS K Ks P' P g S R q w w'->RMJ P S Bx ch z ok Q j gs a w' t m qq ->
  ∃(N:Nat) (R1:Nat->Nat->Prop) (q1:Goroutine) (w1:World) (gs1:Array Goroutine) (a1:Goroutine) (w1':World) (sl1:Option (Nat×Nat)) (t1:Trace) (m1:Nat) (qq1:Nat->Nat),
   runNT P N (crowd gs w' sl) t=(.next (crowd gs1 w1' sl1),t1)/\yD P' q w q1 w1/\GR K P' P bs R1 q1 a1/\MS K Ks P' P g S R1 q1 w1 w1'/\RMJ P S Bx ch z ok Q j gs1 a1 w1' t1 m1 qq1/\Ext0 K R R1 w w' w1 w1'/\NG c0 F bs.src q1:=by
 have hl:¬Leaves q:=hG.not_leaves hla;intro M
 induction M using Nat.strongRecOn with
 | _ M ihM =>
 intro gs w' sl t m qq hq hM hR;have hrun:a.status=.running:=by cases hG;rfl
 obtain⟨i,x,d,sl',hi,hx,hst⟩:=crowd_pick (P:=P) (w:=w') (sl:=sl) (hR.awake hrun) ⟨j,a,hR.here,hrun⟩;have hltj:j<gs.size:=(qy hR.here).1;have hlt0:0<gs.size:=by omega
 obtain⟨hbch,cs,ctm,hch⟩:=hR.chan;obtain⟨a0,h0,hS0⟩:=hR.zero;have hj0:j≠0:=by have:=hR.jpos;omega
 have hMd:MS K Ks P' P g S R q w (w'.at d):=⟨⟨hM.w0.fn,hM.w0.inj,hM.w0.obj,hM.w0.fz,hM.w0.glob,hM.w0.big,hM.w0.big'⟩,hM.nd,hM.self,hM.glob,hM.shun,hM.low,hM.keep⟩;by_cases ej:i=j
 ·subst ej;obtain rfl:x=a:=by rw[hR.here]at hi;exact(qz hi).symm
  let τ:Nat->Question->Nat:=fun n z=>w'.tape (d+(n-w.drawn)) z
  obtain⟨q1,w1,es,hs⟩:∃q1 w1 es,stepG P' true q (w.tp τ)=.go q1 w1 es:=by
   cases hT with
   | fin h _=>exact absurd h hl
   | step _ nx h1 _=>obtain⟨es,e,_⟩:=h1 τ;exact⟨_,_,es,e⟩
  obtain⟨hnb,hT1⟩:=hT.child hl hs
  have hwr:WR (K.at w1.drawn) R (w.tp τ) (w'.at d):=W0.wr (⟨hM.w0.fn,hM.w0.inj,hM.w0.obj,hM.w0.fz,hM.w0.glob,hM.w0.big,hM.w0.big'⟩:W0 K R (w.tp τ) (w'.at d)) _ fun k z _=>by
   show w'.tape (d+k) z=w'.tape (d+(w.drawn+k-w.drawn)) z;rw[Nat.add_sub_cancel_left]
  obtain⟨hn1,hst1⟩:=jW (m':=false) (Z.at _) (show yU (w.tp τ)from hM.nd) hwr hM.glob (hG.at _) hla hs rfl;rcases hst1 with hb|⟨R1,a1,w1',es',e,hg1,hw1,hx1,hv1⟩
  ·exact absurd hb hnb
  have hself:Ym Ks P' g q1 w1:=(hM.self.turn Zs hl τ hs).2 hnb;have hX:Ext0 K R R1 w w' w1 w1':=Ext.e0 hx1.un
  have hshun:∀b c,R1 b c->¬S c:=fun b c hr hc=>by
   rcases hX.new b c hr with h|⟨_,h⟩
   ·exact hM.shun b c h hc
   ·have:=hM.low c hc;omega
  have hbx1:∀b c,R1 b c->¬Bx c:=fun b c hr hc=>by
   rcases hX.new b c hr with h|⟨_,h⟩
   ·exact hbx b c h hc
   ·have:=hR.bx c hc;omega
  have hkeep:yh Bx w' w1':=fun b hb=>hX.stay b (hR.bx b hb) fun b' hr=>absurd hb (hbx b' b hr)
  have hlow:∀b c,R1 b c->c<w1'.heap.size:=fun b c hr=>by
   obtain⟨_,o',_,h2,_⟩:=hw1.obj b c hr;exact(qy h2).1
  have hmd:q1.frame.mode=.run\/q1.frame.mode=.returning:=by
   rcases hg1 with h|⟨f,xs,xs',k,k',_,_,_,rfl,_⟩
   ·cases h with
    | mk hf _=>exact hf.mode.imp (·.1) (·.1)
   ·exact .inl rfl
  have hN1:NG c0 F bs.src q1:=ng_step Zs hC (hM.self.tp τ) hN hla hs hmd
  have hg1':GR K P' P bs R1 q1 a1:=by
   rcases hg1 with h|⟨f,xs,xs',k,k',hf,_,_,rfl,_⟩
   ·exact h.un
   ·exfalso;have:=hN1.fr.fn;rw[show(Frame.enter P' f xs .normal).fn=f from rfl,hSp f hf]at this;cases this
  have hevs:∀ev∈es',EvL (zR S) w1'.heap.size ev:=fun ev hev=>qcd (hv1 ev hev) hshun hlow
  have hevb:∀ev∈es',∀y,(MemAct.ofEvent ev).touch? = some y->¬Xn Bx y.loc:=fun ev hev y hy hb=>by
   cases(hv1 ev hev)with
   | cell ad wr b hr _ =>
     have e1:MemAct.ofEvent ⟨.cell ad,wr,false⟩=.access ⟨.cell ad,wr,false⟩:=(by cases wr<;>rfl);rw[e1]at hy;simp only[MemAct.touch?,Option.some.injEq]at hy;subst hy;exact hbx1 _ _ hr hb
   | obj r wr b hr _ =>
     have e1:MemAct.ofEvent ⟨.obj r,wr,false⟩=.access ⟨.obj r,wr,false⟩:=(by cases wr<;>rfl);rw[e1]at hy;simp only[MemAct.touch?,Option.some.injEq]at hy;subst hy;exact hbx1 _ _ hr hb
   | room=>simp[MemAct.ofEvent,MemAct.touch?]at hy
  obtain⟨gs2,h1,h2,h3⟩:=hR.own e hX.size' hkeep hevs (fun ev hev y hy hb=>absurd hb (hevb ev hev y hy)) sl';exact⟨1,R1,q1,w1,gs2,a1,w1',sl',_,m,qq,by simp only[runNT,hst,h1],⟨τ,q1,w1,es,hl,hs,.refl _ _⟩,hg1',⟨hw1.w0,hn1,hself,fun n hn=>hX.le _ _ (hM.glob n hn),hshun,fun c hc=>Nat.lt_of_lt_of_le (hM.low c hc) hX.size',Yr hM.keep hM.w0 hX⟩,h3,hX,hN1⟩
 ·
  obtain⟨gs2,t2,d2,m2,qq2,h1,h2,h3⟩:=hR.slip hrun (d:=d) (sl':=sl') hi hx ej;have hMd2:MS K Ks P' P g S R q w (w'.at d2):=⟨⟨hM.w0.fn,hM.w0.inj,hM.w0.obj,hM.w0.fz,hM.w0.glob,hM.w0.big,hM.w0.big'⟩,hM.nd,hM.self,hM.glob,hM.shun,hM.low,hM.keep⟩;obtain⟨N,R1,q1,w1,gs1,a1,w1',sl1,t1,m1,qq1,r1,r2,r3,r4,r5,r6,r7⟩:=ihM (m2+sumTo gs2.size qq2) (by omega) gs2 (w'.at d2) sl' (t++t2) m2 qq2 ql hMd2 h3;exact⟨N+1,R1,q1,w1,gs1,a1,w1',sl1,t1,m1,qq1,by simp only[runNT,hst,h1];exact r1,r2,r3,r4,r5,⟨r6.le,r6.new,r6.size,r6.size',r6.stay,r6.tp',r6.os',r6.out',r6.held⟩,r7⟩
theorem Ext0.bx{R R1:Nat->Nat->Prop}{w w' w1 w1':World}(h:Ext0 K R R1 w w' w1 w1')(hb:∀b,Bx b->b<w'.heap.size)(hbx:∀b c,R b c->¬Bx c):∀b c,R1 b c->¬Bx c:=fun b c hr hc=>by
 rcases h.new b c hr with x|⟨_,x⟩
 ·exact hbx b c x hc
 ·have:=hb c hc;omega
theorem kid_all{Sp:FuncId->Prop}{c0:Nat->Bool}{F:Nat->List Nat}(Z:Cov K P' P c g Sp)(Zs:Cov Ks P' P' c g (fun _=>False))(hC:JI c0 F P')(hSp:∀f,Sp f->c0 f=false){q:Goroutine}{w:World}(hT:LT P' true Fin q w) :
 ∀(R:Nat->Nat->Prop) (gs:Array Goroutine) (a:Goroutine) (w':World) (sl:Option (Nat×Nat)) (t:Trace) (m:Nat) (qq:Nat->Nat),GR K P' P bs R q a->MS K Ks P' P g S R q w w'->RMJ P S Bx ch z ok Q j gs a w' t m qq->(∀b c,R b c->¬Bx c)->NG c0 F bs.src q ->
  ∃(N:Nat) (R1:Nat->Nat->Prop) (q1:Goroutine) (w1:World) (gs1:Array Goroutine) (a1:Goroutine) (w1':World) (sl1:Option (Nat×Nat)) (t1:Trace) (m1:Nat) (qq1:Nat->Nat),
   runNT P N (crowd gs w' sl) t=(.next (crowd gs1 w1' sl1),t1)/\yE bs.src q1/\LT P' true Fin q1 w1/\Desc P' q w q1 w1/\GR K P' P bs R1 q1 a1/\MS K Ks P' P g S R1 q1 w1 w1'/\RMJ P S Bx ch z ok Q j gs1 a1 w1' t1 m1 qq1/\Ext0 K R R1 w w' w1 w1'/\∀b c,R1 b c->¬Bx c:=by
 refine LT.strong (M:=fun q w=>∀(R:Nat->Nat->Prop) (gs:Array Goroutine) (a:Goroutine) (w':World) (sl:Option (Nat×Nat)) (t:Trace) (m:Nat) (qq:Nat->Nat),GR K P' P bs R q a->MS K Ks P' P g S R q w w'->RMJ P S Bx ch z ok Q j gs a w' t m qq->(∀b c,R b c->¬Bx c)->NG c0 F bs.src q ->       ∃(N:Nat) (R1:Nat->Nat->Prop) (q1:Goroutine) (w1:World) (gs1:Array Goroutine) (a1:Goroutine) (w1':World) (sl1:Option (Nat×Nat)) (t1:Trace) (m1:Nat) (qq1:Nat->Nat),         runNT P N (crowd gs w' sl) t=(.next (crowd gs1 w1' sl1),t1)/\yE bs.src q1/\LT P' true Fin q1 w1/\Desc P' q w q1 w1/\GR K P' P bs R1 q1 a1/\MS K Ks P' P g S R1 q1 w1 w1'/\RMJ P S Bx ch z ok Q j gs1 a1 w1' t1 m1 qq1/\Ext0 K R R1 w w' w1 w1'/\∀b c,R1 b c->¬Bx c) (fun q w hT ih=>?_) hT;intro R gs a w' sl t m qq hG hM hR hbx hN;by_cases hla:yE bs.src q
 ·exact⟨0,R,q,w,gs,a,w',sl,t,m,qq,rfl,hla,hT,.refl _ _,hG,hM,hR,.refl _ _,hbx⟩
 ·obtain⟨N,R1,q1,w1,gs1,a1,w1',sl1,t1,m1,qq1,r1,r2,r3,r4,r5,r6,r7⟩:=kid_step Z Zs hC hSp hT hG hN hla hbx _ gs w' sl t m qq ql hM hR;obtain⟨N2,R2,q2,w2,gs2,a2,w2',sl2,t2,m2,qq2,h1,h2,h3,h4,h5,h6,h7,h8,h9⟩:=ih q1 w1 r2 R1 gs1 a1 w1' sl1 t1 m1 qq1 r3 r4 r5 (r6.bx hR.bx hbx) r7;exact⟨N+N2,R2,q2,w2,gs2,a2,w2',sl2,t2,m2,qq2,zl r1 h1,h2,h3,r2.desc.trans h4,h5,h6,h7,r6.trans h8,h9⟩
end
end Go.Sim
end
namespace Go.Sim
open Go Go.Instr Go.Conc
section
variable {P' P:Program} {K Ks:Cfg} {c g:Nat->Bool} {Sp:FuncId->Prop}
theorem VR.plain_eq{C:FuncId->Prop}{R:Nat->Nat->Prop}:∀{n:Nat} {v v':Value},VR C R v v'->zO n v=true->v'=v
 | 0,v,v',_,h=>by simp[zO]at h
 | n+1,v,v',hv,h=>by
   have key:∀{xs xs':Array Value},xs.size=xs'.size->(∀(i:Nat) (x x':Value),xs[i]? = some x->xs'[i]? = some x'->VR C R x x')->xs.all (zO n)=true->xs'=xs:=fun {xs xs'} hs he hx=>by
    rw[Array.all_eq_true']at hx;refine Array.ext hs.symm fun i h1 h2=>?_;exact VR.plain_eq (he i xs[i] xs'[i] (by simp[h2]) (by simp[h1])) (hx _ (Array.getElem_mem h2))
   cases hv with
   | iface t hv=>rw[VR.plain_eq hv (by simpa[zO]using h)]
   | agg hs he=>rw[key hs he (by simpa[zO]using h)]
   | tuple hs he=>rw[key hs he (by simp only[zO,Bool.and_eq_true]at h;exact h.2)]
   | _=>first|rfl|(simp[zO]at h;done)
def Still{α:Type}(s:Sem α):Prop:=∀P w,(∃a,s.run P w=.ok a w)\/∃h,s.run P w=.halt h w
theorem Still.pure{α:Type}(a:α):Still (Pure.pure a:Sem α):=fun _ _=>.inl ⟨a,rfl⟩
theorem Still.bind{α β:Type}{s:Sem α}{f:α->Sem β}(h:Still s)(k:∀a,Still (f a)):Still (s >>= f):=fun P w=>by
 rcases h P w with⟨a,e⟩|⟨x,e⟩
 ·rw[Sem.run_bind,e];exact k a P w
 ·rw[Sem.run_bind,e];exact .inr ⟨x,rfl⟩
theorem Still.stuck{α:Type}(m:String):Still (Go.stuck m:Sem α):=fun _ _=>.inr ⟨_,rfl⟩
theorem Still.halt{α:Type}(x:Halt):Still (.halt x:Sem α):=fun _ _=>.inr ⟨_,rfl⟩
theorem Still.program:Still Go.program:=fun _ _=>.inl ⟨_,rfl⟩
theorem Still.load(a:Addr):Still (Go.load a):=fun P w=>by
 rw[run_load];split
 ·exact .inl ⟨_,rfl⟩
 ·split
  ·exact .inl ⟨_,rfl⟩
  ·exact .inr ⟨_,rfl⟩
theorem Still.underlying(t:TypeId):Still (Go.underlying t):=by
 unfold Go.underlying;refine Still.program.bind fun P=>?_;split
 ·exact .pure _
 ·exact .stuck _
theorem Still.typeInfo(t:TypeId):Still (Go.typeInfo t):=by
 unfold Go.typeInfo;refine Still.program.bind fun P=>?_;split
 ·exact .pure _
 ·exact .stuck _
theorem Still.isAgg(t:TypeId):Still (Go.isAgg t):=by
 unfold Go.isAgg;refine(Still.underlying t).bind fun d=>?_;split<;>exact .pure _
theorem Still.sizeOf(t:TypeId):Still (Go.sizeOf t):=by
 unfold Go.sizeOf;exact(Still.typeInfo t).bind fun d=>.pure _
theorem Still.loadCellsFrom(a:Addr)(i n:Nat)(acc:Array Value):Still (Go.loadCellsFrom a i n acc):=by
 induction n generalizing i acc with
 | zero=>exact .pure _
 | succ n ih =>
   unfold Go.loadCellsFrom;exact(Still.load _).bind fun v=>ih _ _
theorem Still.loadVar(t:TypeId)(a:Addr):Still (Go.loadVar t a):=by
 unfold Go.loadVar;refine(Still.isAgg t).bind fun b=>?_;split
 ·exact(Still.sizeOf t).bind fun n=>(Still.loadCellsFrom _ _ _ _).bind fun c=>.pure _
 ·exact .load a
theorem Still.asAddr(v:Value):Still (Go.asAddr v):=by
 unfold Go.asAddr
 split<;>first
  | exact .pure _
  | exact .stuck _
  | (unfold Go.runtimePanic
     refine Still.program.bind fun P=>?_
     exact .halt _)
theorem Still.results(fn:Func)(ts:Array Value):Still (Go.results fn ts):=by
 unfold Go.results;rw[Array.mapM_eq_mapM_toList,map_eq_pure_bind];simp only[bind_assoc,pure_bind];refine Still.bind ?_ fun _=>.pure _
 induction fn.results.toList with
 | nil=>exact .pure _
 | cons x l ih =>
   rw[List.mapM_cons];refine Still.bind ?_ fun v=>ih.bind fun _=>.pure _
   cases x with
   | tmp t=>exact .pure _
   | cell a t=>exact(Still.asAddr _).bind fun _=>.loadVar _ _
theorem qfJ{P:Program}{m m1:Machine}{t t1:Trace}:∀{N M:Nat} {r:Stepped},runNT P N m t=(.next m1,t1)->runN P M m1=r->runN P (N+M) m=r:=by
 intro N
 induction N generalizing m t with
 | zero =>
   intro M r h1 h2;simp only[runNT,Prod.mk.injEq,Stepped.next.injEq]at h1;obtain⟨rfl,rfl⟩:=h1;rw[Nat.zero_add];exact h2
 | succ N ih =>
   intro M r h1 h2;rw[Nat.succ_add];simp only[runNT]at h1;simp only[runN,step]
   cases e:stepT P m with
   | mk s ops =>
     rw[e]at h1
     cases s with
     | next m2=>exact ih h1 h2
     | ended o w=>simp at h1
theorem qbB(Z:Cov K P' P c g Sp)(Zs:Cov Ks P' P' c g (fun _=>False)){f:FuncId}{args:Array Value}{Ws W:World}{R:Nat->Nat->Prop}{Post:Value->World->Prop}(hPh:qbS K Ks P' P g Sp (FinP P' Post))(hf:K.C f)(hs:¬Sp f)
 (hargs:AR K.C R args args) (hargs':AR Ks.C R args args) (hf':Ks.C f)
 (h0:W0 K R Ws W) (h0s:W0 Ks R Ws Ws) (hn:yU Ws) (hg:∀n,g n=true->R n n) (hfz:∀b c,R b c->K.Fz b) (hkp:∀n,K.Fz n->R n n/\Ws.heap[n]? = K.bs[n]?/\W.heap[n]? = K.bt[n]?)
 (hP:∀v w t,Post v w->Post v (w.tp t)) (hp:∀v w,Post v w->zO 8 v=true)
 (hC:∀t,Calls P' f args (Ws.tp t) fun e w'=>∃v,e=.returned v/\Post v w') :
 ∃N last o w' t',runNT P (N+1) (solo (G (Frame.enter P f args .normal) []) W) #[]=(.ended o w',t')/\runN P N (solo (G (Frame.enter P f args .normal) []) W)=.next last/\step P last=.ended o w' /\
  Conc.Good P (fun v w'=>(∃wf,Post v wf)/\(∀k,k<W.heap.size->w'.heap[k]? = W.heap[k]?)/\W.heap.size<=w'.heap.size/\w'.os=W.os/\w'.output=W.output/\w'.tape=W.tape) last o w' t':=by
 have hself:Ym Ks P' g (Qz P' f args [c0]) Ws:=⟨R,.mk (FR.enter Zs hf' (fun h=>h) hargs') (.base rfl),h0s,hn,hg⟩;have hT:=LT.of_calls Zs hP hself hC;have hM:MS K Ks P' P g (fun _=>False) R (Qz P' f args [c0]) Ws W:=⟨h0,hn,hself,hg,fun _ _ _ h=>h,fun _ h=>h.elim,hkp⟩;have hG:GR K P' P (.lone []) R (Qz P' f args [c0]) (Qz P f args []):=.mk (FR.enter Z hf hs hargs) (.base rfl)
 have hR:RM P (fun _=>False) #[Qz P f args []] (Qz P f args []) W #[]:=⟨rfl,⟨fun _=>0,leavers_one P _⟩,by
  have h1:Past (fun _=>False) W.heap.size #[]:=past_nil.mono (Nat.zero_le _)
  have e:zR (fun _=>False)=fun _=>False:=by
   funext l;cases l<;>rfl
  rw[e];exact h1,fun i op h=>by simp at h⟩
 obtain⟨N,S1,R1,q1,w1,gs1,a1,w1',sl1,t1,r1,hl,hF,hG1,hM1,⟨hh,⟨qq,hL⟩,hPast,_⟩,hX,_⟩:=qbq Z Zs hPh hT _ R #[Qz P f args []] _ W none #[] (.inl hG) hM hR
 have hend:Goes P true AtRel (fun _ _ _=>False) (AtEnd P (zR S1) w1'.heap.size (fun v w'=>(∃wf,Post v wf)/\(∀k,k<W.heap.size->w'.heap[k]? = W.heap[k]?)/\W.heap.size<=w'.heap.size/\w'.os=W.os/\w'.output=W.output/\w'.tape=W.tape)) 0 a1 w1':=by
  intro w₁ hw₁;obtain⟨d,rfl⟩:=hw₁;obtain⟨l1,l2,l3⟩:=hl;obtain⟨v,fn,e1,e2,e3⟩:=hF w1.tape
  cases hG1 with
  | @mk qa a' k k' ha hk =>
    simp only at l1 l2 l3 e1 e2;have hdf:=ha.defers;subst l3
    have hk':k'=[]:=by
     cases hk with
     | base _=>rfl
     | over h=>cases h with
       | cons h1 h2=>cases h2
    subst hk';refine⟨rfl,?_⟩;obtain⟨F,f1,f2,hi⟩:=ha.std
    have hfd:a'.defers=[]:=by
     rw[l2]at hdf;revert hdf;generalize a'.defers=ds;intro hdf;cases hdf;rfl
    have hmd:a'.mode=.returning:=by
     rcases ha.mode with⟨h,_⟩|⟨_,h⟩
     ·rw[l1]at h;cases h
     ·exact h
    have hfn:F=fn:=(by rw[e1]at f1;cases f1;rfl);subst hfn
    have hwr:WR (K.at w1.drawn) R1 (w1.tp (fun n z=>w1'.tape (d+(n-w1.drawn)) z)) (w1'.at d):=W0.wr (⟨hM1.w0.fn,hM1.w0.inj,hM1.w0.obj,hM1.w0.fz,hM1.w0.glob,hM1.w0.big,hM1.w0.big'⟩:W0 K R1 (w1.tp (fun n z=>w1'.tape (d+(n-w1.drawn)) z)) (w1'.at d)) _ fun j z _=>by
     show w1'.tape (d+j) z=w1'.tape (d+(w1.drawn+j-w1.drawn)) z;rw[Nat.add_sub_cancel_left]
    obtain⟨R2,v',w2',h1,h2,h3,h4,h5,_⟩:=(qh.results (K:=K.at w1.drawn) (P':=P') (P:=P) Z.toSame F ha.tmps _ _ hwr).1 v _ (e2 (fun n z=>w1'.tape (d+(n-w1.drawn)) z)) ql;have hv:v'=v:=VR.plain_eq h5 (hp v _ (e3 w1.tape));subst hv;obtain⟨fn0,ts,td,ds,mode,kind,ro⟩:=a';have hkd:=ha.kind';have hfe:=ha.fn;simp only at hfd hmd hkd hfe h1 h4;subst hfd hmd hkd
    have hi':P.inits.idxOf? fn0=none:=by
     rw[hfe];have hT:=Z.tables
     have e:P.inits=P'.inits:=by
      obtain⟨T',f'⟩:=P';obtain⟨T,f⟩:=P;simp only at hT;subst hT;rfl
     rw[e];exact hi
    have f2':P.funcs[fn0]? = some F:=by rw[hfe];exact f2
    obtain rfl:w2'=w1'.at d:=by
     rcases Still.results F ts P (w1'.at d)with⟨_,e⟩|⟨_,e⟩
     ·rw[h1]at e;cases e;rfl
     ·rw[h1]at e;cases e
    have hst:stepG P true { frame:={ fn:=fn0,tmps:=ts,todo:=td,defers:=[],mode:=.returning,kind:=.normal,roundOf:=ro },callers:=[],status:=.running,dying:=none } (w1'.at d)
     = .ended (.done v') (w1'.at d) (seen P fn0 ((Go.results F ts).events P (w1'.at d) #[])):=by
     unfold stepG;dsimp only;unfold unwind;simp only[f2',Sem.runT_eq,h1,doReturn,hi'];simp[GStep.after]
    refine⟨v',_,hst,fun e he=>qcd (h4 e (mem_seen he)) (fun b c hr hc=>?_) (fun b c hr=>?_),⟨_,e3 w1.tape⟩,fun k hk=>hX.stay k hk fun b hr=>hfz b k hr,hX.size',hX.os',hX.out',hX.tp'⟩
    ·rcases h3.new b c hr with h|⟨_,h⟩
     ·exact hM1.shun b c h hc
     ·have:=hM1.low c hc;exact absurd h (Nat.not_le.2 this)
    ·obtain⟨_,o',_,h2,_⟩:=h2.obj b c hr;exact(qy h2).1
 obtain⟨N2,last,o,w',t',b1,b2,b3,b4⟩:=beside_ends (sl:=sl1) (fun _ _ _ h=>h.elim) hh hL hPast hend;have e0:(solo (G (Frame.enter P f args .normal) []) W)=crowd #[Qz P f args []] W none:=rfl;rw[e0];refine⟨N+N2,last,o,w',t',?_,?_,b3,b4⟩
 ·rw[Nat.add_assoc];exact zl r1 b1
 ·exact qfJ r1 b2
end
end Go.Sim
section
namespace Go.Sim
open Go Go.Instr Go.Conc
open Go.ConcN (sumTo upd sumTo_upd upd_ne upd_same)
section
variable {P:Program} {S:Nat->Prop} {D:World->World->Array Event->Prop} {Stop:Goroutine->World->Prop}
theorem rm_walk{β:World->Nat}(hβ:∀w d,β (w.at d)=β w)(hD:∀w w' es,D w w' es->β w<=β w'/\∀e∈es,EvL (zR S) (β w') e) :
 ∀(M n:Nat) (gs:Array Goroutine) (a:Goroutine) (w:World) (sl:Option (Nat×Nat)) (t:Trace) (qq:Nat->Nat),n+sumTo gs.size qq<=M->gs[0]? = some a->Leavers P t gs qq->Past (zR S) (β w) t->(∀(i:Nat) (op:MemOp),t[i]? = some op->op.g<gs.size)->Goes P true AtRel D Stop n a w ->
  ∃(N:Nat) (gs':Array Goroutine) (a':Goroutine) (w':World) (sl':Option (Nat×Nat)) (t':Trace),runNT P N (crowd gs w sl) t=(.next (crowd gs' w' sl'),t')/\(gs'[0]? = some a'/\(∃qq,Leavers P t' gs' qq)/\Past (zR S) (β w') t'/\∀(i:Nat) (op:MemOp),t'[i]? = some op->op.g<gs'.size)/\Stop a' w':=by
 intro M
 induction M using Nat.strongRecOn with
 | _ M ih =>
 intro n gs a w sl t qq hq h0 hL hP hNm hG
 cases n with
 | zero=>exact⟨0,gs,a,w,sl,t,rfl,⟨h0,⟨qq,hL⟩,hP,hNm⟩,hG w (atRel_refl w)⟩
 | succ n =>
 rcases hG with hstop|⟨hrun,hstep⟩
 ·exact⟨0,gs,a,w,sl,t,rfl,⟨h0,⟨qq,hL⟩,hP,hNm⟩,hstop w (atRel_refl w)⟩
 have haw:∀x∈gs,awake x:=by
  intro x hx;obtain⟨i,hi,rfl⟩:=Array.mem_iff_getElem.1 hx;rcases Nat.eq_zero_or_pos i with rfl|hpos
  ·have:gs[0]=a:=(by simpa[Array.getElem?_eq_getElem hi]using h0);rw[this];exact awake_of (.inl hrun)
  ·exact awake_of ((hL.old i _ hpos (Array.getElem?_eq_getElem hi)).status.elim .inl fun x=>.inr (.inr x))
 obtain⟨i,x,d,sl',hi,hx,hst⟩:=crowd_pick (P:=P) (w:=w) (sl:=sl) haw ⟨0,a,h0,hrun⟩;rcases Nat.eq_zero_or_pos i with rfl|hpos
 ·obtain rfl:x=a:=by rw[h0]at hi;exact(qz hi).symm
  have hs:=hstep (w.at d) ⟨d,rfl⟩
  cases e:stepG P true x (w.at d)with
  | go a1 w1 es =>
    rw[e]at hs;obtain⟨hd,hg⟩:=hs;obtain⟨hsz,hev⟩:=hD _ _ _ hd;have hsz':β w<=β w1:=(by rw[hβ]at hsz;exact hsz);have hrunT:=runT_crowd_go (P:=P) (sl:=sl') (i:=0) hi (show stepG P (0==0) x (w.at d)=_ from e);have hlt:0<gs.size:=(qy h0).1;have hsize:((gs.map (woken P x a1 w1)).setIfInBounds 0 a1).size=gs.size:=by simp
    obtain⟨N,gs1,a2,w2,sl2,t2,r1,r2,r3⟩:=ih (n+sumTo gs.size qq) (by omega) n ((gs.map (woken P x a1 w1)).setIfInBounds 0 a1) a1 w1 sl' (t++MemOp.ofEvents 0 x.frame.fn x.frame.place es) qq (by rw[hsize];exact ql) (by simp[hlt])
     ⟨fun j y hj hy=>by
       have hne:0≠j:=(by omega);rw[qJ hne,Array.getElem?_map]at hy;obtain⟨z,hz,rfl⟩:=Option.map_eq_some_iff.1 hy;have hq:=hL.old j z hj hz;rw[woken_quitsD hq,Deaf_other t (by omega) _ (fun op hop=>by obtain⟨e,_,rfl⟩:=Go.Conc.mem_ofEvents hop;rfl)]
       exact hq,fun j hj=>by
       rw[Deaf_other t (g':=0) (by simp at hj;omega) _ (fun op hop=>by obtain⟨e,_,rfl⟩:=Go.Conc.mem_ofEvents hop;rfl)]
       exact hL.above j (by simpa using hj)⟩
     ((hP.mono hsz').own hev) (zu hNm (by simp) fun op hop=>by obtain⟨e,_,rfl⟩:=Go.Conc.mem_ofEvents hop;simpa using hlt) hg
    exact⟨N+1,gs1,a2,w2,sl2,t2,by simp only[runNT,hst,hrunT];exact r1,r2,r3⟩
  | _=>rw[e]at hs;exact hs.elim
 ·have hq1:=hL.old i x hpos hi;have hi0:(i==0)=false:=by simp;omega
  have hlt:i<gs.size:=(qy hi).1
  cases hqi:qq i with
  | zero=>rw[hqi]at hq1;rw[hq1.1]at hx;cases hx
  | succ k =>
    rw[hqi]at hq1;rcases hq1 with⟨hf,_⟩|⟨_,g',es,hm,hstp,hq'⟩
    ·rw[hf]at hx;cases hx
    have hrunT:=runT_crowd_go (P:=P) (sl:=sl') (i:=i) hi (by rw[hi0];exact hstp (w.at d));have hsz:((gs.map (woken P x g' (w.at d))).setIfInBounds i g').size=gs.size:=by simp
    have hsum:sumTo gs.size (upd qq i k)+(k+1)=sumTo gs.size qq+k:=by
     have:=sumTo_upd qq k id hlt;simpa[hqi]using this
    obtain⟨N,gs1,a2,w2,sl2,t2,r1,r2,r3⟩:=ih (n+1+sumTo gs.size (upd qq i k)) (by omega) (n+1) ((gs.map (woken P x g' (w.at d))).setIfInBounds i g') a (w.at d) sl' (t++MemOp.ofEvents i x.frame.fn x.frame.place es) (upd qq i k) (by rw[hsz];exact ql)
     (by
       have hne:i≠0:=(by omega);rw[qJ hne,Array.getElem?_map,h0]
       simp[woken_run hrun])
     ⟨fun j y hj hy=>by
       by_cases hji:i=j
       ·subst hji;rw[Array.getElem?_setIfInBounds_self_of_lt (by simpa using hlt)]at hy;obtain rfl:=qz hy;rw[upd_same,Deaf_own];exact hq'
       ·rw[qJ hji,Array.getElem?_map]at hy;obtain⟨z,hz,rfl⟩:=Option.map_eq_some_iff.1 hy;have hqj:=hL.old j z hj hz;rw[woken_quitsD hqj,upd_ne qq k (Ne.symm hji),Deaf_other t hji _ (fun op hop=>by obtain⟨e,_,rfl⟩:=Go.Conc.mem_ofEvents hop;rfl)]
        exact hqj,fun j hj=>by
       rw[Deaf_other t (g':=i) (by simp at hj;omega) _ (fun op hop=>by obtain⟨e,_,rfl⟩:=Go.Conc.mem_ofEvents hop;rfl)]
       exact hL.above j (by simpa using hj)⟩
     (by rw[hβ];exact hP.mute (by omega) hm) (zu hNm (by simp) fun op hop=>by obtain⟨e,_,rfl⟩:=Go.Conc.mem_ofEvents hop;simpa using hlt)
     (.inr ⟨hrun,fun w₁ h₁=>hstep w₁ (atRel_trans _ _ _ ⟨d,rfl⟩ h₁)⟩)
    exact⟨N+1,gs1,a2,w2,sl2,t2,by simp only[runNT,hst,hrunT];exact r1,r2,r3⟩
theorem RM.walk(hD:∀w w' es,D w w' es->w.heap.size<=w'.heap.size/\∀e∈es,EvL (zR S) w'.heap.size e){n:Nat}{gs:Array Goroutine}{a:Goroutine}{w:World}{sl:Option (Nat×Nat)}{t:Trace}(h:RM P S gs a w t)(hG:Goes P true AtRel D Stop n a w) :
 ∃(N:Nat) (gs':Array Goroutine) (a':Goroutine) (w':World) (sl':Option (Nat×Nat)) (t':Trace),runNT P N (crowd gs w sl) t=(.next (crowd gs' w' sl'),t')/\RM P S gs' a' w' t'/\Stop a' w':=by
 obtain⟨h0,⟨qq,hL⟩,hP,hN⟩:=h;obtain⟨N,gs',a',w',sl',t',r1,⟨r2,r3,r4,r5⟩,r6⟩:=rm_walk (β:=fun w=>w.heap.size) (fun _ _=>rfl) hD _ n gs a w sl t qq ql h0 hL hP hN hG;exact⟨N,gs',a',w',sl',t',r1,⟨r2,r3,r4,r5⟩,r6⟩
end
section
variable {P' P:Program} {K Ks:Cfg} {c g:Nat->Bool}
theorem FsR.deeper{bs:Bs}{R:Nat->Nat->Prop}{k k':List Frame}(h:FsR K P' P bs R k k'):bs.src.length<k.length:=by
 induction h with
 | one _ _=>simp
 | cons _ _ ih=>simp;omega
variable {Sp:FuncId->Prop} {Fin:Goroutine->World->Prop}
theorem qfb(Z:Cov K P' P' c g (fun _=>False)){a:Frame}{b:Frame}{scs:List Frame}{w:World}(hT:LT P' true Fin (G a (b::scs)) w)(hS:Ym K P' g (G a (b::scs)) w)(hscs:scs≠[])(l1:a.mode=.returning)(l2:a.defers=[]) :
 ∃v fn,P'.funcs[a.fn]? = some fn/\(∀t,(Go.results fn a.tmps).run P' (w.tp t)=.ok v (w.tp t))/\yD P' (G a (b::scs)) w (G (b.finish v) scs) w/\LT P' true Fin (G (b.finish v) scs) w/\Ym K P' g (G (b.finish v) scs) w:=by
 have hnl:¬Leaves (G a (b::scs)):=fun h=>by
  have:=h.2.2;simp only[G,List.cons.injEq]at this;exact hscs this.2
 obtain⟨g1,w1,es,e,hb⟩:∃g1 w1 es,stepG P' true (G a (b::scs)) (w.tp w.tape)=.go g1 w1 es/\¬Bad g1:=by
  cases hT with
  | fin h _=>exact absurd h hnl
  | step _ nx h1 _=>obtain⟨es,e,hb⟩:=h1 w.tape;exact⟨_,_,es,e,hb⟩
 have hT1:=(hT.child hnl e).2;have hS1:=(hS.turn Z hnl w.tape e).2 hb;obtain⟨R,hg,hw,_,_⟩:=hS;have e0:stepG P' true (G a (b::scs)) w=.go g1 w1 es:=e
 cases hg with
 | mk ha _ =>
   have hw':WR (K.at w.drawn) R w w:=hw.wr _ fun _ _ _=>rfl;obtain⟨F,f1,_,_⟩:=ha.std;have hk:=ha.kind;have hss:=(qh.results (K:=K.at w.drawn) (P':=P') (P:=P') Z.toSame F ha.tmps w w hw').2.2;obtain⟨fn0,ts,td,ds,mode,kind,ro⟩:=a;simp only at l1 l2 hk f1 hss;subst l1 l2 hk
   have hr:∃v,(Go.results F ts).run P' w=.ok v w:=by
    rcases Still.results F ts P' w with⟨v,h⟩|⟨x,h⟩
    ·exact⟨v,h⟩
    ·exfalso
     have hs:∃o w1 es,stepG P' true (G { fn:=fn0,tmps:=ts,todo:=td,defers:=[],mode:=.returning,kind:=.normal,roundOf:=ro } (b::scs)) w=.ended o w1 es:=by
      unfold stepG;dsimp only[G];unfold unwind;simp only[f1,Sem.runT_eq,h];cases x<;>exact⟨_,_,_,rfl⟩
     obtain⟨_,_,_,hs⟩:=hs;rw[hs]at e0;cases e0
   obtain⟨v,hr⟩:=hr
   have hs:∃es,stepG P' true (G { fn:=fn0,tmps:=ts,todo:=td,defers:=[],mode:=.returning,kind:=.normal,roundOf:=ro } (b::scs)) w=.go (G (b.finish v) scs) w es:=by
    unfold stepG;dsimp only[G];unfold unwind;simp only[f1,Sem.runT_eq,hr];exact⟨_,rfl⟩
   obtain⟨_,hs⟩:=hs;rw[hs]at e0;simp only[GStep.go.injEq]at e0;obtain⟨e1,e2,_⟩:=e0;subst e1 e2;refine⟨v,F,f1,fun t=>?_,⟨w.tape,_,_,_,hnl,e,.refl _ _⟩,hT1,hS1⟩;have:=hss (by rw[hr];exact ql) t (by rw[hr];exact fun i q a b=>absurd (Nat.lt_of_le_of_lt a b) (Nat.lt_irrefl _));rw[this,hr];rfl
end
end Go.Sim
end
namespace Go.Sim
open Go Go.Instr Go.Conc
def DJ(S Bx:Nat->Prop)(w w':World)(es:Array Event):Prop :=
 w.heap.size<=w'.heap.size/\yh Bx w w'/\∀e∈es,EvL (zR S) w'.heap.size e/\∀y,(MemAct.ofEvent e).touch? = some y->Xn Bx y.loc->y.write=false
section
variable {S Bx:Nat->Prop} {w w':World}
theorem DJ.still:DJ S Bx w w #[]:=⟨ql,fun _ _=>rfl,fun e he=>by simp at he⟩
theorem DJ.none(hs:w.heap.size<=w'.heap.size)(hk:yh Bx w w'):DJ S Bx w w' #[]:=⟨hs,hk,fun e he=>by simp at he⟩
theorem evJ_read{a:Addr}{B:Nat}(hS:¬S a.block)(hB:a.block<B):EvL (zR S) B ⟨.cell a,false,false⟩/\∀y,(MemAct.ofEvent ⟨.cell a,false,false⟩).touch? = some y->Xn Bx y.loc->y.write=false:=by
 refine⟨⟨fun x hx hs=>?_,by simp,by simp,by rw[ofEvent_cell0];exact hB⟩,fun y hy _=>?_⟩
 ·simp only[ofEvent_cell0,MemAct.touch?,Option.some.injEq]at hx;subst hx;exact absurd hs hS
 ·simp only[ofEvent_cell0,MemAct.touch?,Option.some.injEq]at hy;subst hy;rfl
theorem qeo{a:Addr}{B:Nat}(hS:¬S a.block)(hX:¬Bx a.block)(hB:a.block<B):EvL (zR S) B ⟨.cell a,true,false⟩/\∀y,(MemAct.ofEvent ⟨.cell a,true,false⟩).touch? = some y->Xn Bx y.loc->y.write=false:=by
 have e1:MemAct.ofEvent ⟨.cell a,true,false⟩=.access ⟨.cell a,true,false⟩:=rfl;refine⟨⟨fun x hx hs=>?_,by simp,by simp,by rw[e1];exact hB⟩,fun y hy hb=>?_⟩
 ·rw[e1]at hx;simp only[MemAct.touch?,Option.some.injEq]at hx;subst hx;exact absurd hs hS
 ·rw[e1]at hy;simp only[MemAct.touch?,Option.some.injEq]at hy;subst hy;exact absurd hb hX
end
section
variable {P:Program} {w w2:World}
theorem qA{b:Nat}(h:w2.heap[b]? = w.heap[b]?){a:Addr}(ha:a.block=b):w2.cell? a=w.cell? a:=by
 subst ha;exact World.cell?_of_block h
theorem add_block(a:Addr)(n:Nat):(a.add n).block=a.block:=by unfold Addr.add;split<;>rfl
theorem qbm{ad:Addr}{c:Array Value}{e:TypeId}{f:Nat×Nat}{v:Value}{w1:World}(hb:w.heap[ad.block]? = some (.cells c e f))(h:(Go.load ad).run P w=.ok v w1):w1=w/\w.cell? ad=some v:=by
 rw[run_load]at h
 cases e:w.cell? ad with
 | some u =>
   rw[e]at h;simp only[Result.ok.injEq]at h;exact⟨h.2.symm,by rw[h.1]⟩
 | none =>
   exfalso;rw[e]at h;unfold World.farLoad at h;rw[hb]at h;simp at h
def Reads(b:Nat)(es:Array Event):Prop:=∀ev∈es,∃off s,ev=⟨.cell ⟨b,off,s⟩,false,false⟩
theorem xP{ad:Addr}{c:Array Value}{e:TypeId}{f:Nat×Nat}(hb:w.heap[ad.block]? = some (.cells c e f))(h:w2.heap[ad.block]? = w.heap[ad.block]?):∀(n i:Nat) (acc xs:Array Value) (w1:World),(loadCellsFrom ad i n acc).run P w=.ok xs w1 ->
 w1=w/\(loadCellsFrom ad i n acc).run P w2=.ok xs w2/\∀es,Reads ad.block es->Reads ad.block ((loadCellsFrom ad i n acc).events P w2 es)
 | 0,_,_,_,_,hr=>by
   simp only[loadCellsFrom,Sem.run_pure,Result.ok.injEq]at hr⊢;exact⟨hr.2.symm,⟨hr.1,trivial⟩,fun es he=>by simpa using he⟩
 | n+1,i,acc,xs,w1,hr=>by
   simp only[loadCellsFrom,Sem.run_bind]at hr⊢
   cases hl:(load (ad.add i)).run P w with
   | halt x wx=>rw[hl]at hr;simp at hr
   | ok v wx =>
     obtain⟨hwx,hc⟩:=qbm (by rw[add_block];exact hb) hl;rw[hwx]at hl;have hc2:w2.cell? (ad.add i)=some v:=(qA h (add_block ad i)).trans hc;have e2:(load (ad.add i)).run P w2=.ok v w2:=(by simp[hc2]);rw[hl,Result.andThen_ok]at hr;rw[e2,Result.andThen_ok];obtain⟨k1,k2,k3⟩:=xP hb h n (i+1) _ xs w1 hr;refine⟨k1,k2,fun es he=>?_⟩;rw[Sem.events_bind,e2,events_load,hc2];refine k3 _ fun ev hev=>?_;rcases Array.mem_push.1 hev with hev|rfl
     ·exact he ev hev
     ·refine⟨(ad.add i).off,(ad.add i).spot,?_⟩;have:=add_block ad i
      cases hh:ad.add i with
      | mk b o s=>rw[hh]at this;simp only at this;subst this;rfl
theorem qdK{t:TypeId}{n:Nat}{w1:World}(h:(Go.sizeOf t).run P w=.ok n w1):w1=w/\∀w2,(Go.sizeOf t).run P w2=.ok n w2/\∀es,(Go.sizeOf t).events P w2 es=es:=by
 unfold Go.sizeOf Go.typeInfo at h⊢;simp only[Sem.run_bind,run_program,Result.andThen_ok]at h⊢
 cases e:P.info? t with
 | none=>rw[e]at h;simp[stuck]at h
 | some d =>
   rw[e]at h;simp at h;obtain⟨h1,h2⟩:=h;subst h1 h2;exact⟨rfl,fun w2=>⟨by simp,fun es=>by simp[Sem.events_bind,e]⟩⟩
theorem qeL{t:TypeId}{b:Bool}{w1:World}(h:(Go.isAgg t).run P w=.ok b w1):w1=w/\∀w2,(Go.isAgg t).run P w2=.ok b w2/\∀es,(Go.isAgg t).events P w2 es=es:=by
 unfold Go.isAgg Go.underlying at h⊢;simp only[Sem.run_bind,run_program,Result.andThen_ok]at h⊢
 cases e:P.underlying t with
 | none=>rw[e]at h;simp[stuck]at h
 | some d =>
   rw[e]at h;simp only[Sem.run_pure,Result.andThen_ok]at h;refine⟨?_,fun w2=>⟨?_,fun es=>?_⟩⟩
   ·cases d<;>simp at h<;>exact h.2.symm
   ·simp only[Sem.run_pure,Result.andThen_ok];cases d<;>simp at h⊢ <;> exact h.1
   ·simp only[Sem.events_bind,run_program,Sem.run_pure,Result.andThen_ok,e];cases d<;>simp[e,Sem.events_bind]
theorem xI{t:TypeId}{ad:Addr}{c:Array Value}{e:TypeId}{f:Nat×Nat}{v:Value}{w1:World}(hb:w.heap[ad.block]? = some (.cells c e f))(h:w2.heap[ad.block]? = w.heap[ad.block]?)(hr:(Instr.loadAt t (.pointer (some ad))).run P w=.ok v w1) :
 w1=w/\(Instr.loadAt t (.pointer (some ad))).run P w2=.ok v w2/\Reads ad.block ((Instr.loadAt t (.pointer (some ad))).events P w2 #[]):=by
 unfold Instr.loadAt at hr⊢;have hs:∀w,(Instr.sureAddr (.pointer (some ad))).run P w=.ok ad w:=fun w=>by simp[Instr.sureAddr]
 have hse:∀w es,(Instr.sureAddr (.pointer (some ad))).events P w es=es:=fun w es=>by simp[Instr.sureAddr]
 simp only[Sem.run_bind,Sem.events_bind,hs,hse,Result.andThen_ok]at hr⊢;unfold Go.loadVar at hr⊢;simp only[Sem.run_bind,Sem.events_bind]at hr⊢
 cases ha:(Go.isAgg t).run P w with
 | halt x wx=>rw[ha]at hr;simp at hr
 | ok b wx =>
   obtain⟨hwx,h2⟩:=qeL ha;rw[hwx]at ha;rw[ha,Result.andThen_ok]at hr;rw[(h2 w2).1,Result.andThen_ok,Result.evThen_ok,(h2 w2).1,Result.evThen_ok,(h2 w2).2]
   cases b with
   | true =>
     simp only[if_true,Sem.run_bind,Sem.events_bind]at hr⊢
     cases hz:(Go.sizeOf t).run P w with
     | halt x wx=>rw[hz]at hr;simp at hr
     | ok n wx =>
       obtain⟨hwx,h3⟩:=qdK hz;rw[hwx]at hz;rw[hz,Result.andThen_ok]at hr;simp only[(h3 w2).1,Result.andThen_ok,Result.evThen_ok,(h3 w2).2];unfold Go.loadCells at hr⊢
       cases hl:(loadCellsFrom ad 0 n #[]).run P w with
       | halt x wx=>rw[hl]at hr;simp at hr
       | ok xs wx =>
         obtain⟨hwx,k2,k3⟩:=xP hb h n 0 #[] xs wx hl;rw[hwx]at hl;rw[hl]at hr;simp only[Result.andThen_ok,Sem.run_pure,Result.ok.injEq]at hr;obtain⟨hv,hw⟩:=hr;refine⟨hw.symm,by simp[k2,hv],?_⟩;simp only[k2,Result.andThen_ok];have:=k3 #[] (fun ev he=>by simp at he);simpa using this
   | false =>
     simp only[Bool.false_eq_true,if_false]at hr⊢;obtain⟨hwx,hc⟩:=qbm hb hr;have hc2:=(qA h rfl).trans hc;refine⟨hwx,by simp[hc2],?_⟩;rw[events_load,hc2];intro ev hev;simp at hev;exact⟨ad.off,ad.spot,hev⟩
end
section
variable {P:Program} {m:Bool} {S Bx:Nat->Prop} {Stop:Goroutine->World->Prop} {n:Nat} {w w1:World} {b:Frame} {a:Go.Act} {kk:List Item} {cs:List Frame} {ops:Array Oper} {i:Nat} {rest:List Nat} {o:Oper}
variable {g:Goroutine}
abbrev GoJ(P:Program)(m:Bool)(S Bx:Nat->Prop)(Stop:Goroutine->World->Prop)(n:Nat)(g:Goroutine)(w:World):Prop:=Goes P m AtRel (DJ S Bx) Stop n g w
theorem GoJ.at(k:GoJ P m S Bx Stop n g w)(hr:AtRel w w1):GoJ P m S Bx Stop n g w1:=Goes.rely atRel_trans k hr
theorem GoJ.ctl{g g':Goroutine}(hs:g.status=.running)(h:∀w,stepG P m g w=.go g' w #[])(k:GoJ P m S Bx Stop n g' w):GoJ P m S Bx Stop (n+1) g w :=
 Goes.step hs fun w₁ hr=>by rw[h,goes_go];exact⟨DJ.still,k.at hr⟩
theorem GoJ.draw{id:Nat}(k:∀t,GoJ P m S Bx Stop n (G (b.at a (.inRegion ops (Region.schedule (P.follows .mixedOrders) ops t)::kk)) cs) w):GoJ P m S Bx Stop (n+1) (G (b.at a (.code (.region id ops true)::kk)) cs) w :=
 Goes.step rfl fun w₁ hr=>by
  obtain⟨d,rfl⟩:=hr;rw[stepG_region_draw,goes_go];exact⟨DJ.none ql fun _ _=>rfl,(k _).at ⟨d+1,rfl⟩⟩
theorem GoJ.val{v:Value}(ho:ops[i]? = some o)(hg:o.guard=none)(hk:b.kind≠.early)(hr:∀d,(execOp a.eval o).run P (w.at d)=.ok (.value v) (w1.at d))(hD:∀d,DJ S Bx (w.at d) (w1.at d) (listed P b.fn a o (w.at d)))
 (k:GoJ P m S Bx Stop n (G (b.at (a.put o.dst v) (.inRegion ops rest::kk)) cs) w1):GoJ P m S Bx Stop (n+1) (G (b.at a (.inRegion ops (i::rest)::kk)) cs) w :=
 Goes.step rfl fun w₁ hr₁=>by
  obtain⟨d,rfl⟩:=hr₁;rw[stepG_value ho (by unfold Region.wanted;rw[hg]) hk (hr d),goes_go];exact⟨hD d,k.at ⟨d,rfl⟩⟩
theorem GoJ.skip{w1:World}(ho:ops[i]? = some o)(hg:o.guard=none)(hk:b.kind≠.early)(hr:∀d,(execOp a.eval o).run P (w.at d)=.ok .skip (w1.at d))(hD:∀d,DJ S Bx (w.at d) (w1.at d) (listed P b.fn a o (w.at d)))
 (k:GoJ P m S Bx Stop n (G (b.at (a.put o.dst undef) (.inRegion ops rest::kk)) cs) w1):GoJ P m S Bx Stop (n+1) (G (b.at a (.inRegion ops (i::rest)::kk)) cs) w :=
 Goes.step rfl fun w₁ hr₁=>by
  obtain⟨d,rfl⟩:=hr₁;rw[stepG_none ho (by unfold Region.wanted;rw[hg]) hk (hr d),goes_go];exact⟨hD d,k.at ⟨d,rfl⟩⟩
theorem GoJ.pure{v:Value}(ho:ops[i]? = some o)(hg:o.guard=none)(hk:b.kind≠.early)(hr:∀w,(execOp a.eval o).run P w=.ok (.value v) w/\(execOp a.eval o).events P w #[]=#[])
 (k:GoJ P m S Bx Stop n (G (b.at (a.put o.dst v) (.inRegion ops rest::kk)) cs) w):GoJ P m S Bx Stop (n+1) (G (b.at a (.inRegion ops (i::rest)::kk)) cs) w :=
 GoJ.val ho hg hk (fun d=>(hr _).1) (fun d=>by rw[listed_none (hr _).2];exact DJ.still) k
theorem GoJ.new{v:Value}{x:Obj}(ho:ops[i]? = some o)(hg:o.guard=none)(hk:b.kind≠.early)(hbx:∀c,Bx c->c<w.heap.size)(hr:∀d,(execOp a.eval o).run P (w.at d)=.ok (.value v) ((w.at d).alloc x)/\(execOp a.eval o).events P (w.at d) #[]=#[])
 (k:GoJ P m S Bx Stop n (G (b.at (a.put o.dst v) (.inRegion ops rest::kk)) cs) (w.alloc x)):GoJ P m S Bx Stop (n+1) (G (b.at a (.inRegion ops (i::rest)::kk)) cs) w:=by
 refine GoJ.val (w1:=w.alloc x) ho hg hk (fun d=>(hr d).1) (fun d=>?_) k;rw[listed_none (hr d).2];refine DJ.none ?_ fun c hc=>?_
 ·show w.heap.size<=(w.heap.push x).size;simp
 ·show(w.heap.push x)[c]? = w.heap[c]?;have:=hbx c hc;rw[Array.getElem?_push_lt (by omega),Array.getElem?_eq_getElem (by omega)]
theorem YH{t:TypeId}{x:Operand}{z:Value}(hop:o.op=.box t x)(hx:a.eval x=z)(w:World):(execOp a.eval o).run P w=.ok (.value (.pointer (some ⟨w.heap.size,0,none⟩))) (w.alloc (.cells z.cells t (0,0)))/\(execOp a.eval o).events P w #[]=#[]:=by
 constructor
 ·unfold execOp;simp only[hop,hx];simp[Instr.box,newVar,newRow,go_sem]
 ·unfold execOp;simp only[hop,hx];simp[Instr.box,newVar,newRow,go_sem]
theorem chan_run{t e:TypeId}{dir:ChanDir}{inf:TypeInfo}{n:Nat}{x:Operand}(hop:o.op=.makeChan t x)(hx:a.eval x=.int .i64 n)(ht:P.underlying t=some (.chan dir e))(hi:P.info? e=some inf)(h63:(n:Int)<=9223372036854775807)(hb:(inf.bytes:Int)*n<=281474976710544)(w:World) :
 (execOp a.eval o).run P w=.ok (.value (.chan (some w.heap.size))) (w.alloc (.chan n #[] false 0 0 false))/\(execOp a.eval o).events P w #[]=#[]:=by
 constructor
 ·unfold execOp;simp only[hop,hx];rw[Sem.run_bind,run_makeChan ht hi .i64 n h63 hb];rfl
 ·unfold execOp;simp only[hop,hx];rw[Sem.events_bind,run_makeChan ht hi .i64 n h63 hb,events_makeChan ht hi .i64 n h63 hb];rfl
theorem qfg{t:TypeId}(hop:o.op=.makeMap t none)(w:World):(execOp a.eval o).run P w=.ok (.value (.map (some w.heap.size))) (w.alloc (.map #[] 0))/\(execOp a.eval o).events P w #[]=#[]:=by
 constructor
 ·unfold execOp;simp only[hop];simp[Instr.makeMap,go_sem]
 ·unfold execOp;simp only[hop];simp[Instr.makeMap,go_sem]
theorem qdU{t:TypeId}{z:Value}(hop:o.op=.alloc t)(hz:∀w,(zeroValue t).run P w=.ok z w)(w:World):(execOp a.eval o).run P w=.ok (.value (.pointer (some ⟨w.heap.size,0,none⟩))) (w.alloc (.cells z.cells t (0,0)))/\(execOp a.eval o).events P w #[]=#[]:=by
 constructor
 ·unfold execOp;simp only[hop];go_simp
 ·unfold execOp;simp only[hop];simp[go_sem,hz]
theorem GoJ.box{t:TypeId}{x:Operand}{z:Value}(ho:ops[i]? = some o)(hg:o.guard=none)(hk:b.kind≠.early)(hbx:∀c,Bx c->c<w.heap.size)(hop:o.op=.box t x)(hx:a.eval x=z)
 (k:GoJ P m S Bx Stop n (G (b.at (a.put o.dst (.pointer (some ⟨w.heap.size,0,none⟩))) (.inRegion ops rest::kk)) cs) (w.alloc (.cells z.cells t (0,0)))):GoJ P m S Bx Stop (n+1) (G (b.at a (.inRegion ops (i::rest)::kk)) cs) w :=
 GoJ.new ho hg hk hbx (fun d=>YH hop hx (w.at d)) k
theorem GoJ.chan{t e:TypeId}{dir:ChanDir}{inf:TypeInfo}{x:Operand}(ho:ops[i]? = some o)(hg:o.guard=none)(hk:b.kind≠.early)(hbx:∀c,Bx c->c<w.heap.size)(hop:o.op=.makeChan t x)(hx:a.eval x=.int .i64 (0:Nat))(ht:P.underlying t=some (.chan dir e))(hi:P.info? e=some inf)
 (k:GoJ P m S Bx Stop n (G (b.at (a.put o.dst (.chan (some w.heap.size))) (.inRegion ops rest::kk)) cs) (w.alloc (.chan 0 #[] false 0 0 false))):GoJ P m S Bx Stop (n+1) (G (b.at a (.inRegion ops (i::rest)::kk)) cs) w :=
 GoJ.new ho hg hk hbx (fun d=>chan_run (n:=0) hop hx ht hi (by decide) (by simp) (w.at d)) k
theorem GoJ.map{t:TypeId}(ho:ops[i]? = some o)(hg:o.guard=none)(hk:b.kind≠.early)(hbx:∀c,Bx c->c<w.heap.size)(hop:o.op=.makeMap t none)
 (k:GoJ P m S Bx Stop n (G (b.at (a.put o.dst (.map (some w.heap.size))) (.inRegion ops rest::kk)) cs) (w.alloc (.map #[] 0))):GoJ P m S Bx Stop (n+1) (G (b.at a (.inRegion ops (i::rest)::kk)) cs) w :=
 GoJ.new ho hg hk hbx (fun d=>qfg hop (w.at d)) k
theorem GoJ.alloc{t:TypeId}{z:Value}(ho:ops[i]? = some o)(hg:o.guard=none)(hk:b.kind≠.early)(hbx:∀c,Bx c->c<w.heap.size)(hop:o.op=.alloc t)(hz:∀w,(zeroValue t).run P w=.ok z w)
 (k:GoJ P m S Bx Stop n (G (b.at (a.put o.dst (.pointer (some ⟨w.heap.size,0,none⟩))) (.inRegion ops rest::kk)) cs) (w.alloc (.cells z.cells t (0,0)))):GoJ P m S Bx Stop (n+1) (G (b.at a (.inRegion ops (i::rest)::kk)) cs) w :=
 GoJ.new ho hg hk hbx (fun d=>qdU hop hz (w.at d)) k
theorem GoJ.copy{x:Operand}{z:Value}(ho:ops[i]? = some o)(hg:o.guard=none)(hk:b.kind≠.early)(hop:o.op=.assign x\/o.op=.move x)(hx:a.eval x=z)
 (k:GoJ P m S Bx Stop n (G (b.at (a.put o.dst z) (.inRegion ops rest::kk)) cs) w):GoJ P m S Bx Stop (n+1) (G (b.at a (.inRegion ops (i::rest)::kk)) cs) w :=
 GoJ.pure ho hg hk (fun w=>by
  unfold execOp
  rcases hop with hop|hop<;>simp only[hop,hx]<;>constructor<;>simp[go_sem]) k
theorem GoJ.storeC{t e:TypeId}{x y:Operand}{bk c:Nat}{u:Value}(ho:ops[i]? = some o)(hg:o.guard=none)(hk:b.kind≠.early)(hop:o.op=.store t x y)(hx:a.eval x=.pointer (some ⟨bk,0,none⟩))(hy:a.eval y=.chan (some c))(hsz:∀w,(sizeOf t).run P w=.ok 1 w)
 (hS:¬S bk) (hX:¬Bx bk) (hc:w.heap[bk]? = some (.cells #[u] e (0,0)))
 (k:∀w2:World,w2.heap.size=w.heap.size->(∀z,z≠bk->w2.heap[z]? = w.heap[z]?)->w2.heap[bk]? = some (.cells #[.chan (some c)] e (0,0))->w2.tape=w.tape/\w2.os=w.os/\w2.output=w.output->GoJ P m S Bx Stop n (G (b.at (a.put o.dst undef) (.inRegion ops rest::kk)) cs) w2):GoJ P m S Bx Stop (n+1) (G (b.at a (.inRegion ops (i::rest)::kk)) cs) w:=by
 have c0:∀d,(w.at d).cell? ⟨bk,0,none⟩=some u:=fun d=>by show w.cell? _=_;simp[World.cell?,hc]
 have z0:∀d,(w.at d).frozen? ⟨bk,0,none⟩=false:=fun d=>by show w.frozen? _=_;simp[World.frozen?,hc]
 have hc2:(w.setCell ⟨bk,0,none⟩ (.chan (some c))).heap[bk]? = some (.cells #[.chan (some c)] e (0,0)):=by
  rw[setCell_eq_setRow w bk 0 _ e (0,0) _ hc,setRow_heap w bk _ _ e _ hc];rfl
 have hA:=aside_setCell w ⟨bk,0,none⟩ (.chan (some c))
 have hr:∀d,(execOp a.eval o).run P (w.at d)=.ok .skip ((w.setCell ⟨bk,0,none⟩ (.chan (some c))).at d):=fun d=>by
  have e:(w.setCell ⟨bk,0,none⟩ (.chan (some c))).at d=(w.at d).setCell ⟨bk,0,none⟩ (.chan (some c)):=by
   rw[setCell_eq_setRow w bk 0 _ e (0,0) _ hc,setCell_eq_setRow (w.at d) bk 0 _ e (0,0) _ hc];rfl
  rw[e];unfold execOp;simp only[hop,hx,hy];simp[go_sem,stored,c0 d,z0 d,hsz]
 have he:∀d,(execOp a.eval o).events P (w.at d) #[]=#[⟨.cell ⟨bk,0,none⟩,true,false⟩]:=fun d=>by
  unfold execOp;simp only[hop,hx,hy];simp[go_sem,storedEv,c0 d,z0 d,hsz]
 have hlt:bk<w.heap.size:=(qy hc).1;refine GoJ.skip ho hg hk hr (fun d=>⟨Nat.le_of_eq hA.size.symm,fun z hz=>hA.block z fun(e:z=bk)=>hX (by rw[<-e];exact hz),fun ev hev=>?_⟩) (k _ hA.size (fun z hz=>hA.block z hz) hc2 ⟨hA.tape,hA.os,hA.output⟩);have:=mem_listed hev;rw[he]at this;simp at this;subst this;exact qeo hS hX (by show bk<(w.setCell _ _).heap.size;rw[hA.size];exact hlt)
theorem GoJ.load{t:TypeId}{x:Operand}{ad:Addr}{v:Value}{c:Array Value}{e:TypeId}{f:Nat×Nat}(ho:ops[i]? = some o)(hg:o.guard=none)(hk:b.kind≠.early)(hop:o.op=.load t x)(hx:a.eval x=.pointer (some ad))
 (hS:¬S ad.block) (hc:w.heap[ad.block]? = some (.cells c e f)) {w0:World} (hb0:w0.heap[ad.block]? = some (.cells c e f)) (hl:(Instr.loadAt t (.pointer (some ad))).run P w0=.ok v w0)
 (k:GoJ P m S Bx Stop n (G (b.at (a.put o.dst v) (.inRegion ops rest::kk)) cs) w):GoJ P m S Bx Stop (n+1) (G (b.at a (.inRegion ops (i::rest)::kk)) cs) w:=by
 have h:∀d,(Instr.loadAt t (.pointer (some ad))).run P (w.at d)=.ok v (w.at d)/\Reads ad.block ((Instr.loadAt t (.pointer (some ad))).events P (w.at d) #[]):=fun d=>(xI (w:=w0) (w2:=w.at d) hb0 (show w.heap[ad.block]? = _ by rw[hc,hb0]) hl).2;refine GoJ.val (w1:=w) ho hg hk (fun d=>?_) (fun d=>⟨ql,fun _ _=>rfl,fun ev hev=>?_⟩) k
 ·unfold execOp;simp only[hop,hx,Sem.run_bind,(h d).1,Result.andThen_ok,Sem.run_pure]
 ·have hlt:ad.block<w.heap.size:=(qy hc).1;have h2:=mem_listed hev
  have e1:(execOp a.eval o).events P (w.at d) #[]=(Instr.loadAt t (.pointer (some ad))).events P (w.at d) #[]:=by
   unfold execOp;simp only[hop,hx,Sem.events_bind,(h d).1,Result.evThen_ok,Sem.events_pure]
  rw[e1]at h2;obtain⟨off,sp,rfl⟩:=(h d).2 _ h2;exact evJ_read hS hlt
end
end Go.Sim
namespace Go.Sim
open Go
theorem xW:∀v':Value,∃x,(∀(C:FuncId->Prop) (R:Nat->Nat->Prop),VR C R x v')/\∀(C:FuncId->Prop) (R:Nat->Nat->Prop),VR C R x x
 | .bool b=>⟨.bool b,fun _ _=>.bool b,fun _ _=>.bool b⟩
 | .int k n=>⟨.int k n,fun _ _=>.int k n,fun _ _=>.int k n⟩
 | .string s=>⟨.string s,fun _ _=>.string s,fun _ _=>.string s⟩
 | .nilFunc=>⟨.nilFunc,fun _ _=>.nilFunc,fun _ _=>.nilFunc⟩
 | .nilIface=>⟨.nilIface,fun _ _=>.nilIface,fun _ _=>.nilIface⟩
 | .agg xs=>by
   have h:∀i:Fin xs.size,∃x,(∀(C:FuncId->Prop) (R:Nat->Nat->Prop),VR C R x xs[i])/\∀(C:FuncId->Prop) (R:Nat->Nat->Prop),VR C R x x:=fun i=>xW xs[i];refine⟨.agg (Array.ofFn fun i=>(h i).choose),fun C R=>.agg (by simp) fun i x x' e e'=>?_,fun C R=>.agg rfl fun i x x' e e'=>?_⟩
   ·obtain⟨hi,rfl⟩:=qy e';have:(Array.ofFn fun i:Fin xs.size=>(h i).choose)[i]? = some (h ⟨i,hi⟩).choose:=(by simp[hi]);rw[this]at e;cases e;exact(h ⟨i,hi⟩).choose_spec.1 C R
   ·have hi:i<xs.size:=(by have:=(qy e).1;simpa using this);have:(Array.ofFn fun i:Fin xs.size=>(h i).choose)[i]? = some (h ⟨i,hi⟩).choose:=(by simp[hi]);rw[this]at e e';cases e;cases e';exact(h ⟨i,hi⟩).choose_spec.2 C R
 | .tuple xs=>by
   have h:∀i:Fin xs.size,∃x,(∀(C:FuncId->Prop) (R:Nat->Nat->Prop),VR C R x xs[i])/\∀(C:FuncId->Prop) (R:Nat->Nat->Prop),VR C R x x:=fun i=>xW xs[i];refine⟨.tuple (Array.ofFn fun i=>(h i).choose),fun C R=>.tuple (by simp) fun i x x' e e'=>?_,fun C R=>.tuple rfl fun i x x' e e'=>?_⟩
   ·obtain⟨hi,rfl⟩:=qy e';have:(Array.ofFn fun i:Fin xs.size=>(h i).choose)[i]? = some (h ⟨i,hi⟩).choose:=(by simp[hi]);rw[this]at e;cases e;exact(h ⟨i,hi⟩).choose_spec.1 C R
   ·have hi:i<xs.size:=(by have:=(qy e).1;simpa using this);have:(Array.ofFn fun i:Fin xs.size=>(h i).choose)[i]? = some (h ⟨i,hi⟩).choose:=(by simp[hi]);rw[this]at e e';cases e;cases e';exact(h ⟨i,hi⟩).choose_spec.2 C R
 | .float k b=>⟨.tuple #[],fun _ _=>.junk rfl,fun _ _=>VR.undef⟩
 | .complex k a b=>⟨.tuple #[],fun _ _=>.junk rfl,fun _ _=>VR.undef⟩
 | .pointer none=>⟨.pointer none,fun _ _=>.pnil,fun _ _=>.pnil⟩
 | .pointer (some a)=>⟨.tuple #[],fun _ _=>.junk rfl,fun _ _=>VR.undef⟩
 | .slice a l c=>⟨.tuple #[],fun _ _=>.junk rfl,fun _ _=>VR.undef⟩
 | .map r=>⟨.tuple #[],fun _ _=>.junk rfl,fun _ _=>VR.undef⟩
 | .chan r=>⟨.tuple #[],fun _ _=>.junk rfl,fun _ _=>VR.undef⟩
 | .func (.method n) a b=>⟨.func (.method "") #[.nilIface] #[],fun _ _=>.meth n a b,fun _ _=>.meth _ _ _⟩
 | .func f a b=>by
   cases f with
   | method n=>exact⟨.func (.method "") #[.nilIface] #[],fun _ _=>.meth n a b,fun _ _=>.meth _ _ _⟩
   | _=>exact⟨.tuple #[],fun _ _=>.junk rfl,fun _ _=>VR.undef⟩
 | .iface t v=>⟨.tuple #[],fun _ _=>.junk rfl,fun _ _=>VR.undef⟩
termination_by v=>SizeOf.sizeOf v
decreasing_by
 all_goals
  have:=Array.sizeOf_getElem xs i.1 i.2
  simp
  omega
section
variable (BK:Nat->Prop)
open Classical in
noncomputable def pl(v:Value):Value:=if(∃a l c,v=.slice (some a) l c/\BK a.block)\/(∃l c,v=.slice none l c)\/(∃a,v=.slice (some a) 0 0)then v else(xW v).choose
variable {BK}
theorem qfB{C:FuncId->Prop}{R:Nat->Nat->Prop}(h:∀b,BK b->R b b)(v:Value):VR C R (pl BK v) v:=by
 unfold pl;split
 ·rename_i hx;rcases hx with⟨a,l,c,rfl,hb⟩|⟨l,c,rfl⟩|⟨a,rfl⟩
  ·exact .slice l c ⟨h _ hb,rfl,rfl⟩
  ·exact .snil _ _
  ·exact .zcap a
 ·exact(xW v).choose_spec.1 C R
theorem pl_self{C:FuncId->Prop}{R:Nat->Nat->Prop}(h:∀b,BK b->R b b)(v:Value):VR C R (pl BK v) (pl BK v):=by
 unfold pl;split
 ·rename_i hx;rcases hx with⟨a,l,c,rfl,hb⟩|⟨l,c,rfl⟩|⟨a,rfl⟩
  ·exact .slice l c ⟨h _ hb,rfl,rfl⟩
  ·exact .snil _ _
  ·exact .zcap a
 ·exact(xW v).choose_spec.2 C R
theorem VR.int_eq{C:FuncId->Prop}{R:Nat->Nat->Prop}{x:Value}{k:IntKind}{n:Int}(h:VR C R x (.int k n)):x=.int k n:=by
 cases h with
 | int=>rfl
 | junk h=>simp[xY]at h
theorem VR.string_eq{C:FuncId->Prop}{R:Nat->Nat->Prop}{x:Value}{s:ByteArray}(h:VR C R x (.string s)):x=.string s:=by
 cases h with
 | string=>rfl
 | junk h=>simp[xY]at h
theorem pl_int{k:IntKind}{n:Int}:pl BK (.int k n)=.int k n:=(qfB (C:=fun _=>True) (R:=fun _ _=>True) (fun _ _=>trivial) _).int_eq
theorem pl_string{s:ByteArray}:pl BK (.string s)=.string s:=(qfB (C:=fun _=>True) (R:=fun _ _=>True) (fun _ _=>trivial) _).string_eq
theorem pl_slice{a:Addr}{l c:Nat}(h:BK a.block):pl BK (.slice (some a) l c)=.slice (some a) l c:=by
 unfold pl;rw[if_pos (.inl ⟨a,l,c,rfl,h⟩)]
theorem pl_snil{l c:Nat}:pl BK (.slice none l c)=.slice none l c:=by
 unfold pl;rw[if_pos (.inr (.inl ⟨l,c,rfl⟩))]
theorem pl_zcap{a:Addr}:pl BK (.slice (some a) 0 0)=.slice (some a) 0 0:=by
 unfold pl;rw[if_pos (.inr (.inr ⟨a,rfl⟩))]
variable (BK) (Gl:Nat->Prop)
open Classical in
noncomputable def qaC(bs:Array Obj)(w:World)(i:Nat):Obj :=
 if Gl i then(bs[i]?).getD (.cells #[] 0 (0,0))else if BK i then(match w.heap[i]? with|some (.cells c e f)=>.cells (c.map (pl fun b=>BK b\/Gl b)) e (0,max (max c.size f.2) 1)|_=>.cells #[] 0 (0,0))else .cells #[] 0 (0,0)
noncomputable def jH(bs:Array Obj)(w:World):World:={ w with heap:=Array.ofFn (n:=w.heap.size) fun i=>qaC BK Gl bs w i.1 }
variable {BK Gl} {bs:Array Obj} {w:World}
theorem Qq:(jH BK Gl bs w).heap.size=w.heap.size:=by simp[jH]
theorem Xl{i:Nat}(h:i<w.heap.size):(jH BK Gl bs w).heap[i]? = some (qaC BK Gl bs w i):=by simp[jH,h]
theorem Qp{i:Nat}{c:Array Value}{e:TypeId}{f:Nat×Nat}(h:w.heap[i]? = some (.cells c e f))(hb:BK i)(hg:¬Gl i):(jH BK Gl bs w).heap[i]? = some (.cells (c.map (pl fun b=>BK b\/Gl b)) e (0,max (max c.size f.2) 1)):=by
 rw[Xl (qy h).1];unfold qaC;rw[if_neg hg,if_pos hb,h]
theorem qdL{a:Addr}{v:Value}(h:w.cell? a=some v)(hb:BK a.block)(hg:¬Gl a.block):(jH BK Gl bs w).cell? a=some ((pl fun b=>BK b\/Gl b) v):=by
 unfold World.cell? at h⊢
 cases e:w.heap[a.block]? with
 | none=>rw[e]at h;cases h
 | some o =>
   rw[e]at h
   cases o with
   | cells c t f =>
     rw[Qp e hb hg];simp only at h⊢;split at h
     ·cases h
     ·rw[if_neg ‹_›];simp[h]
   | _=>cases h
theorem xz{i:Nat}{o:Obj}(hi:i<w.heap.size)(hg:Gl i)(h:bs[i]? = some o):(jH BK Gl bs w).heap[i]? = some o:=by
 rw[Xl hi];unfold qaC;rw[if_pos hg,h];rfl
def RS(BK Gl:Nat->Prop)(b c:Nat):Prop:=b=c/\(BK b\/Gl b)
theorem qbF(hG:∀b,Gl b->∃c e hi,bs[b]? = some (.cells c e (0,hi))/\c.size<=hi):yU (jH BK Gl bs w):=fun b x h=>by
 have hb:b<w.heap.size:=by have:=(qy h).1;rwa[Qq]at this
 rw[Xl hb]at h;exfalso;unfold qaC at h;split at h
 ·obtain⟨c,e,hi,e1,_⟩:=hG b ‹_›;rw[e1]at h;simp at h
 ·split at h
  ·split at h<;>simp at h
  ·simp at h
theorem fz_max{c f1 f2:Nat}:FzR (0,max (max c f2) 1) (f1,f2):=.inr ⟨rfl,by show 0<max (max c f2) 1;omega,by show f2<=max (max c f2) 1;omega⟩
theorem qeD{n:Nat}(h:0<n):FzR (0,n) (0,n):=.inr ⟨rfl,h,ql⟩
theorem small_w0{K:Cfg}(hBK:∀b,BK b->∃c e f,w.heap[b]? = some (.cells c e f))(hng:K.ng<=w.heap.size)(hGw:∀b,Gl b->∃o o',bs[b]? = some o/\w.heap[b]? = some o'/\OR K.C K.D (RS BK Gl) o o')
 (hG:∀b,Gl b->∃c e hi,bs[b]? = some (.cells c e (0,hi))/\c.size<=hi) (hd:∀b,BK b->¬Gl b) (hFz:∀b,K.Fz b↔BK b\/Gl b):W0 K (RS BK Gl) (jH BK Gl bs w) w:=by
 refine⟨fun b c d h k=>h.1.symm.trans k.1,fun b c d h k=>h.1.trans k.1.symm,?_,fun b hb=>?_,fun b c h=>by rw[h.1],by rw[Qq];exact hng,hng⟩
 ·rintro b c ⟨rfl,hb⟩;by_cases hg:Gl b
  ·obtain⟨o,o',h1,h2,h3⟩:=hGw b hg;exact⟨o,o',xz (qy h2).1 hg h1,h2,h3⟩
  ·have hb:=hb.resolve_right hg;obtain⟨c,e,f,h⟩:=hBK b hb;refine⟨_,_,Qp h hb hg,h,.cells e ?_ fz_max⟩;have:=AR.map (C:=K.C) (R:=RS BK Gl) c (f:=(pl fun b=>BK b\/Gl b)) (g:=id) fun x _=>qfB (fun b hb=>⟨rfl,hb⟩) x;simpa using this
 ·rcases(hFz b).1 hb with hb|hg
  ·by_cases hg:Gl b
   ·exact absurd hg (hd b hb)
   ·obtain⟨c,e,f,h⟩:=hBK b hb;exact⟨_,_,_,Qp h hb hg,by simp;omega⟩
  ·obtain⟨o,o',h1,h2,_⟩:=hGw b hg;obtain⟨c,e,hi,e1,e2⟩:=hG b hg;exact⟨c,e,hi,xz (qy h2).1 hg e1,e2⟩
theorem qdM{K:Cfg}(hBK:∀b,BK b->∃c e f,w.heap[b]? = some (.cells c e f))(hng:K.ng<=w.heap.size)(hGw:∀b,Gl b->b<w.heap.size/\∃o,bs[b]? = some o/\OR K.C K.D (RS BK Gl) o o)
 (hG:∀b,Gl b->∃c e hi,bs[b]? = some (.cells c e (0,hi))/\c.size<=hi) (hd:∀b,BK b->¬Gl b) (hFz:∀b,K.Fz b↔BK b\/Gl b):W0 K (RS BK Gl) (jH BK Gl bs w) (jH BK Gl bs w):=by
 refine⟨fun b c d h k=>h.1.symm.trans k.1,fun b c d h k=>h.1.trans k.1.symm,?_,fun b hb=>?_,fun b c h=>by rw[h.1],by rw[Qq];exact hng,by rw[Qq];exact hng⟩
 ·rintro b c ⟨rfl,hb⟩;by_cases hg:Gl b
  ·obtain⟨hl,o,h1,h3⟩:=hGw b hg;exact⟨o,o,xz hl hg h1,xz hl hg h1,h3⟩
  ·have hb:=hb.resolve_right hg;obtain⟨c,e,f,h⟩:=hBK b hb;refine⟨_,_,Qp h hb hg,Qp h hb hg,.cells e ?_ (qeD (by omega))⟩;exact AR.map c fun x _=>pl_self (fun b hb=>⟨rfl,hb⟩) x
 ·rcases(hFz b).1 hb with hb|hg
  ·by_cases hg:Gl b
   ·exact absurd hg (hd b hb)
   ·obtain⟨c,e,f,h⟩:=hBK b hb;exact⟨_,_,_,Qp h hb hg,by simp;omega⟩
  ·obtain⟨hl,o,h1,_⟩:=hGw b hg;obtain⟨c,e,hi,e1,e2⟩:=hG b hg;exact⟨c,e,hi,xz hl hg e1,e2⟩
end
end Go.Sim
namespace Go.Sim
open Go Go.Instr Go.Conc
def cfgOf(P' P:Program)(c g:Nat->Bool)(Fz:Nat->Prop)(bs bt:Array Obj):Cfg:={ C:=fun f=>c f=true,D:=fun f x=>Std P' P f/\zQ P c g x=true,Fz:=Fz,lim:=0,ng:=P.globals.size,bs:=bs,bt:=bt }
section
variable {K:Cfg} {R:Nat->Nat->Prop} {w w' w1:World}
theorem W0.low(h:W0 K R w w'){b c:Nat}(hr:R b c):c<w'.heap.size:=by
 obtain⟨_,_,_,h2,_⟩:=h.obj b c hr;exact(qy h2).1
theorem W0.lowS(h:W0 K R w w'){b c:Nat}(hr:R b c):b<w.heap.size:=by
 obtain⟨_,_,h1,_,_⟩:=h.obj b c hr;exact(qy h1).1
theorem W0.grow(h:W0 K R w w')(e:∀c,c<w'.heap.size->w1.heap[c]? = w'.heap[c]?)(hs:w'.heap.size<=w1.heap.size):W0 K R w w1 :=
 ⟨h.fn,h.inj,fun b c hr=>let ⟨o,o',h1,h2,h3⟩:=h.obj b c hr;⟨o,o',h1,(e c (h.low hr)).trans h2,h3⟩,h.fz,h.glob,h.big,Nat.le_trans h.big' hs⟩
end
section
variable {P' P:Program} {K Ks:Cfg} {c g:Nat->Bool} {bs:Bs} {Fin:Goroutine->World->Prop}
def Or2(R P2:Nat->Nat->Prop)(b c:Nat):Prop:=R b c\/P2 b c
theorem phase_end{S:Nat->Prop}{R P2:Nat->Nat->Prop}{q:Goroutine}{w w':World}{gs:Array Goroutine}{sl:Option (Nat×Nat)}{t:Trace}(hM:MS K Ks P' P g S R q w w')
 {cf cf':Frame} {cr cr':List Frame} (hk:FsR K P' P bs R (cf::cr) (cf'::cr')) {v v':Value} {w3 w3':World} (hDn:Dn Ks P' g Fin q w (G (cf.finish v) cr) w3) (hne:q≠G (cf.finish v) cr)
 (hs:∀b,b<w.heap.size->w3.heap[b]? = w.heap[b]?) (hsz:w.heap.size<=w3.heap.size) (hs':∀c,c<w'.heap.size->w3'.heap[c]? = w'.heap[c]?) (hsz':w'.heap.size<=w3'.heap.size)
 {N:Nat} {gs1:Array Goroutine} {sl1:Option (Nat×Nat)} {t1:Trace} {S1:Nat->Prop} (hrun:runNT P N (crowd gs w' sl) t=(.next (crowd gs1 w3' sl1),t1)) (hR:RM P S1 gs1 (G (cf'.finish v') cr') w3' t1)
 (hSS:∀c,S1 c->S c\/w'.heap.size<=c) (hSl:∀c,S1 c->c<w3'.heap.size) (ht:w3'.tape=w'.tape) (ho:w3'.os=w'.os) (hp:w3'.output=w'.output)
 (hnew:∀b c,P2 b c->w.heap.size<=b/\w'.heap.size<=c/\¬S1 c/\∃o o',w3.heap[b]? = some o/\w3'.heap[c]? = some o'/\OR K.C K.D (Or2 R P2) o o') (hfn:∀b c d,P2 b c->P2 b d->c=d) (hinj:∀b c d,P2 b d->P2 c d->b=c)
 (hv:VR K.C (Or2 R P2) v v') :
 ∃(N:Nat) (S1:Nat->Prop) (R1:Nat->Nat->Prop) (q1:Goroutine) (w1:World) (gs1:Array Goroutine) (a1:Goroutine) (w1':World) (sl1:Option (Nat×Nat)) (t1:Trace),
  runNT P N (crowd gs w' sl) t=(.next (crowd gs1 w1' sl1),t1)/\yD P' q w q1 w1/\GR K P' P bs R1 q1 a1/\MS K Ks P' P g S1 R1 q1 w1 w1'/\RM P S1 gs1 a1 w1' t1/\Ext0 K R R1 w w' w1 w1'/\∀c,S1 c->S c\/w'.heap.size<=c:=by
 have hle:∀b c,R b c->Or2 R P2 b c:=fun _ _ h=>.inl h;have hk':=hk.mono hle;have hF:=hk'.head.finish hv;have hX:Ext0 K R (Or2 R P2) w w' w3 w3':=⟨hle,fun b c h=>h.imp id fun h=>⟨(hnew b c h).1,(hnew b c h).2.1⟩,hsz,hsz',fun c hc _=>hs' c hc,ht,ho,hp,fun b _ hb=>hs b hb⟩;obtain⟨_,_,_,hn,_⟩:=id hDn.self;refine⟨N,S1,Or2 R P2,_,w3,gs1,_,w3',sl1,t1,hrun,hDn.desc.below1 hne,.mk hF (GR.pop hk' hF (yX _ _)),⟨⟨?_,?_,?_,?_,?_,Nat.le_trans hM.w0.big hsz,Nat.le_trans hM.w0.big' hsz'⟩,hn,hDn.self,fun n h=>.inl (hM.glob n h),?_,hSl,Yr hM.keep hM.w0 hX⟩,hR,hX,hSS⟩
 ·intro b c d h k;rcases h with h|h<;>rcases k with k|k
  ·exact hM.w0.fn _ _ _ h k
  ·have:=hM.w0.lowS h;have:=(hnew _ _ k).1;omega
  ·have:=hM.w0.lowS k;have:=(hnew _ _ h).1;omega
  ·exact hfn _ _ _ h k
 ·intro b c d h k;rcases h with h|h<;>rcases k with k|k
  ·exact hM.w0.inj _ _ _ h k
  ·have:=hM.w0.low h;have:=(hnew _ _ k).2.1;omega
  ·have:=hM.w0.low k;have:=(hnew _ _ h).2.1;omega
  ·exact hinj _ _ _ h k
 ·intro b c h;rcases h with h|h
  ·obtain⟨o,o',h1,h2,h3⟩:=hM.w0.obj b c h;exact⟨o,o',(hs b (hM.w0.lowS h)).trans h1,(hs' c (hM.w0.low h)).trans h2,h3.mono hle⟩
  ·exact(hnew b c h).2.2.2
 ·intro b hb;obtain⟨c,e,hi,h1,h2⟩:=hM.w0.fz b hb;exact⟨c,e,hi,(hs b (qy h1).1).trans h1,h2⟩
 ·intro b c h;rcases h with h|h
  ·exact hM.w0.glob b c h
  ·have h1:=hnew b c h;have:=hM.w0.big;have:=hM.w0.big';omega
 ·intro b c h hc;rcases h with h|h
  ·rcases hSS c hc with x|x
   ·exact hM.shun b c h x
   ·have:=hM.w0.low h;omega
  ·exact(hnew b c h).2.2.1 hc
theorem qbb{bs:Bs}{S Sm:Nat->Prop}{R Rm:Nat->Nat->Prop}{q qm:Goroutine}{w w' wm wm':World}{gs gsm:Array Goroutine}{sl slm:Option (Nat×Nat)}{t tm:Trace}{N0:Nat}(hrun:runNT P N0 (crowd gs w' sl) t=(.next (crowd gsm wm' slm),tm))(hb:yD P' q w qm wm)(hX:Ext0 K R Rm w w' wm wm')(hSS:∀c,Sm c->S c\/w'.heap.size<=c)
 (h:∃(N:Nat) (S1:Nat->Prop) (R1:Nat->Nat->Prop) (q1:Goroutine) (w1:World) (gs1:Array Goroutine) (a1:Goroutine) (w1':World) (sl1:Option (Nat×Nat)) (t1:Trace),
   runNT P N (crowd gsm wm' slm) tm=(.next (crowd gs1 w1' sl1),t1)/\yD P' qm wm q1 w1/\GR K P' P bs R1 q1 a1/\MS K Ks P' P g S1 R1 q1 w1 w1'/\RM P S1 gs1 a1 w1' t1/\Ext0 K Rm R1 wm wm' w1 w1'/\∀c,S1 c->Sm c\/wm'.heap.size<=c) :
 ∃(N:Nat) (S1:Nat->Prop) (R1:Nat->Nat->Prop) (q1:Goroutine) (w1:World) (gs1:Array Goroutine) (a1:Goroutine) (w1':World) (sl1:Option (Nat×Nat)) (t1:Trace),
  runNT P N (crowd gs w' sl) t=(.next (crowd gs1 w1' sl1),t1)/\yD P' q w q1 w1/\GR K P' P bs R1 q1 a1/\MS K Ks P' P g S1 R1 q1 w1 w1'/\RM P S1 gs1 a1 w1' t1/\Ext0 K R R1 w w' w1 w1'/\∀c,S1 c->S c\/w'.heap.size<=c:=by
 obtain⟨N,S1,R1,q1,w1,gs1,a1,w1',sl1,t1,r1,r2,r3,r4,r5,r6,r7⟩:=h;exact⟨N0+N,S1,R1,q1,w1,gs1,a1,w1',sl1,t1,zl hrun r1,Desc.below_or hb r2.desc,r3,r4,r5,hX.trans r6,fun c hc=>(r7 c hc).elim (hSS c) fun h=>.inr (Nat.le_trans hX.size' h)⟩
theorem Bs.ne(bs:Bs):bs.src≠[]:=fun e=>by
 have:=bs.bad;rw[e]at this;cases this
end
section
variable {P' P:Program} {K:Cfg} {c g:Nat->Bool} {Sp:FuncId->Prop} {R P2:Nat->Nat->Prop} {w w' w3 w3':World}
theorem W0.add(h:W0 K R w w')(hs:∀b,b<w.heap.size->w3.heap[b]? = w.heap[b]?)(hsz:w.heap.size<=w3.heap.size)(hs':∀c,c<w'.heap.size->w3'.heap[c]? = w'.heap[c]?)(hsz':w'.heap.size<=w3'.heap.size)
 (hnew:∀b c,P2 b c->w.heap.size<=b/\w'.heap.size<=c/\∃o o',w3.heap[b]? = some o/\w3'.heap[c]? = some o'/\OR K.C K.D (Or2 R P2) o o') (hfn:∀b c d,P2 b c->P2 b d->c=d) (hinj:∀b c d,P2 b d->P2 c d->b=c):W0 K (Or2 R P2) w3 w3':=by
 have hle:∀b c,R b c->Or2 R P2 b c:=fun _ _ h=>.inl h;refine⟨?_,?_,?_,?_,?_,Nat.le_trans h.big hsz,Nat.le_trans h.big' hsz'⟩
 ·intro b c d x k;rcases x with x|x<;>rcases k with k|k
  ·exact h.fn _ _ _ x k
  ·have:=h.lowS x;have:=(hnew _ _ k).1;omega
  ·have:=h.lowS k;have:=(hnew _ _ x).1;omega
  ·exact hfn _ _ _ x k
 ·intro b c d x k;rcases x with x|x<;>rcases k with k|k
  ·exact h.inj _ _ _ x k
  ·have:=h.low x;have:=(hnew _ _ k).2.1;omega
  ·have:=h.low k;have:=(hnew _ _ x).2.1;omega
  ·exact hinj _ _ _ x k
 ·intro b c x;rcases x with x|x
  ·obtain⟨o,o',h1,h2,h3⟩:=h.obj b c x;exact⟨o,o',(hs b (h.lowS x)).trans h1,(hs' c (h.low x)).trans h2,h3.mono hle⟩
  ·exact(hnew b c x).2.2
 ·intro b hb;obtain⟨c,e,hi,h1,h2⟩:=h.fz b hb;exact⟨c,e,hi,(hs b (qy h1).1).trans h1,h2⟩
 ·intro b c x;rcases x with x|x
  ·exact h.glob b c x
  ·have h1:=hnew b c x;have:=h.big;have:=h.big';omega
theorem QY(Z:Cov K P' P c g Sp)(h:W0 K R w w'){ad ad':Addr}(hr:qW R ad ad'){t:TypeId}{xs:Array Value}{e:TypeId}{f:Nat×Nat}{v:Value}{w1:World}(hb:w.heap[ad.block]? = some (.cells xs e f))(hl:(Instr.loadAt t (.pointer (some ad))).run P' w=.ok v w1) :
 w1=w/\∃v',(Instr.loadAt t (.pointer (some ad'))).run P w'=.ok v' w'/\VR K.C R v v':=by
 obtain⟨h1,_,_⟩:=xI hb rfl hl;refine⟨h1,?_⟩
 let τ:Nat->Question->Nat:=fun n z=>w'.tape (w'.drawn+(n-w.drawn)) z
 have hrun:=(xI (w2:=w.tp τ) hb rfl hl).2.1
 have hwr:WR (K.at w.drawn) R (w.tp τ) w':=W0.wr (⟨h.fn,h.inj,h.obj,h.fz,h.glob,h.big,h.big'⟩:W0 K R (w.tp τ) w') _ fun j z _=>by
  show w'.tape (w'.drawn+j) z=w'.tape (w'.drawn+(w.drawn+j-w.drawn)) z;rw[Nat.add_sub_cancel_left]
 obtain⟨R2,v',w2',e1,e2,e3,_,e5,_⟩:=(qh.loadAt (K:=K.at w.drawn) (P':=P') (P:=P) (R:=R) Z.toSame t (.ptr hr) _ _ hwr).1 v _ hrun ql
 have hb':∃xs' f',w'.heap[ad'.block]? = some (.cells xs' e f'):=by
  obtain⟨o,o',k1,k2,k3⟩:=h.obj _ _ hr.1;rw[hb]at k1;obtain rfl:=(qz k1).symm
  cases k3 with
  | cells=>exact⟨_,_,k2⟩
 obtain⟨xs',f',hb'⟩:=hb';obtain⟨hw2,_,_⟩:=xI hb' rfl e1;subst hw2;refine⟨v',e1,VR.mono (fun b c hr=>?_) e5⟩;rcases e3.new b c hr with x|⟨_,x⟩
 ·exact x
 ·obtain⟨_,o',_,h6,_⟩:=e2.obj b c hr;have:=(qy h6).1;exact absurd x (Nat.not_le.2 this)
end
end Go.Sim
section
namespace Go.Sim
open Go Go.Conc
open Go.ConcN (upd upd_ne upd_same)
def qfX:Value->Array Value
 | .agg ys=>ys
 | _=>#[]
def fT(n:Nat)(v:Nat->Value):Array Value:=Array.ofFn (n:=n) (fun i=>v i.1)++qfX (v n)
def qaQ(n:Nat)(xs:Array Value)(k:Nat):Value:=if k<n then xs.getD k undef else .agg (xs.extract n xs.size)
section
variable {n k:Nat} {v:Nat->Value} {x:Value} {ds:List Deferred}
theorem qet(hk:k<n):(fT n v).getD k undef=v k:=by
 simp[fT,Array.getD,Array.getElem_append,hk,Nat.lt_of_lt_of_le hk (Nat.le_add_right n _)]
theorem qU(hk:k<n):Go.Act.eval ⟨fT n v,ds⟩ (.tmp k)=v k:=qet hk
theorem ofFn_upd{f:Nat->Value}(hk:k<n):(Array.ofFn (n:=n) fun i=>f i.1).setIfInBounds k x=Array.ofFn (n:=n) fun i=>upd f k x i.1:=by
 apply Array.ext
 ·simp
 ·intro i h1 h2;simp only[Array.size_setIfInBounds,Array.size_ofFn]at h1;rw[Array.getElem_setIfInBounds (by simpa using h1)];simp only[Array.getElem_ofFn,upd];by_cases e:k=i
  ·simp[e]
  ·simp[e,Ne.symm e]
theorem yG(hk:k<n):Go.Act.put ⟨fT n v,ds⟩ (some k) x=⟨fT n (upd v k x),ds⟩:=by
 have e:(fT n v).setIfInBounds k x=fT n (upd v k x):=by
  unfold fT;rw[upd_ne _ _ (show n≠k by omega),<-ofFn_upd hk];exact Array.setIfInBounds_append_left (by simpa using hk)
 rw[<-e];rfl
theorem qeu:Go.Act.put ⟨fT n v,ds⟩ none x=⟨fT n v,ds⟩:=rfl
theorem fT_ent(xs:Array Value):xs++Array.replicate (n-xs.size) undef=fT n (qaQ n xs):=by
 have hs:(fT n (qaQ n xs)).size=n+(xs.size-n):=by simp[fT,qaQ,qfX]
 apply Array.ext
 ·rw[hs];simp;omega
 ·intro i h1 h2;by_cases h:i<n
  ·simp[fT,qaQ,Array.getElem_append,h,Array.getD]
  ·have hx:i<xs.size:=(by simp at h1;omega);simp only[fT,qaQ,qfX,Array.getElem_append,hx,Array.size_ofFn,h,dif_pos,dif_neg,not_false_iff];simp only[Nat.lt_irrefl,if_false,Array.getElem_extract];congr 1;omega
theorem qcc{P:Program}{f:FuncId}{fn:Func}{c:Code}(xs:Array Value)(hf:P.funcs[f]? = some fn)(hb:fn.body=some c)(hn:fn.ntmps=n):Frame.enter P f xs .normal=(base f).at ⟨fT n (qaQ n xs),[]⟩ [.code c]:=by
 rw[enter_at xs hf hb,hn,fT_ent]
theorem qea(f:FuncId):(base f).kind≠.early:=by intro h;cases h
end
section
variable {K:Cfg} {P':Program} {c g:Nat->Bool} {Fin:Goroutine->World->Prop} {q0:Goroutine} {w0 w w1:World} {b:Frame} {v:Nat->Value} {kk:List Item} {cs:List Frame} {ops:Array Oper} {i n:Nat} {rest:List Nat} {ds:List Deferred}
theorem Dn.valF(Z:Cov K P' P' c g (fun _=>False))(h:Dn K P' g Fin q0 w0 (G (b.at ⟨fT n v,ds⟩ (.inRegion ops (i::rest)::kk)) cs) w)(hb:b.kind≠.early)(o:Oper)(k:Nat){x:Value}(ho:ops[i]? = some o)(hg:o.guard=none)(hd:o.dst=some k)(hk:k<n)
 (hr:(execOp (Go.Act.eval ⟨fT n v,ds⟩) o).run P' w=.ok (.value x) w1):Dn K P' g Fin q0 w0 (G (b.at ⟨fT n (upd v k x),ds⟩ (.inRegion ops rest::kk)) cs) w1:=by
 have:=Dn.value Z h ho hg hb hr;rw[hd,yG hk]at this;exact this
theorem qbn{P:Program}{ev:Operand->Value}{o:Oper}{t:TypeId}{x:Operand}{nx:Next}(hop:o.op=.load t x)(h:(execOp ev o).run P w=.ok nx w1):∃y,(Instr.loadAt t (ev x)).run P w=.ok y w1/\nx=.value y:=by
 unfold execOp at h;simp only[hop,Sem.run_bind]at h
 cases e:(Instr.loadAt t (ev x)).run P w with
 | halt a b=>rw[e]at h;simp at h
 | ok y w2 =>
   rw[e]at h;simp only[Result.andThen_ok,Sem.run_pure,Result.ok.injEq]at h;obtain⟨h1,h2⟩:=h;exact⟨y,by rw[h2],h1.symm⟩
end
end Go.Sim
end
namespace Go.Proofs.Tryz
open Go Go.Conc Go.Sim
def opsOf:Code->Array Oper
 | .region _ ops _=>ops
 | _=>#[]
noncomputable def Yl:Code:=Tryz.f71.body.getD .skip
noncomputable def tO0:Array Oper:=match Yl with | .seq c _=>opsOf c|_=>#[]
noncomputable def tO1:Array Oper:=match Yl with | .seq _ (.seq c _)=>opsOf c|_=>#[]
noncomputable def tO2:Array Oper:=match Yl with | .seq _ (.seq _ (.seq c _))=>opsOf c|_=>#[]
noncomputable def tO3:Array Oper:=match Yl with | .seq _ (.seq _ (.seq _ (.seq c _)))=>opsOf c|_=>#[]
noncomputable def tO4:Array Oper:=match Yl with | .seq _ (.seq _ (.seq _ (.seq _ (.seq (.seq c _) _))))=>opsOf c|_=>#[]
noncomputable def tL:Code:=match Yl with | .seq _ (.seq _ (.seq _ (.seq _ (.seq (.seq _ (.block _ (.loop c))) _))))=>c|_=>.skip
noncomputable def tO5:Array Oper:=match tL with | .seq c _=>opsOf c|_=>#[]
noncomputable def tO6:Array Oper:=match tL with | .seq _ (.seq _ (.block _ c))=>opsOf c|_=>#[]
noncomputable def tO7:Array Oper:=match Yl with | .seq _ (.seq _ (.seq _ (.seq _ (.seq _ (.seq c _)))))=>opsOf c|_=>#[]
theorem t_body:Yl=.seq (.region 0 tO0 false) (.seq (.region 1 tO1 false) (.seq (.region 2 tO2 false) (.seq (.region 3 tO3 false) (.seq (.seq (.region 4 tO4 false) (.block 0 (.loop tL))) (.seq (.region 7 tO7 false) .ret))))):=by kernel_rfl
theorem t_L:tL=.seq (.region 5 tO5 false) (.seq (.cond (.tmp 15) .skip (.exit 0)) (.block 1 (.region 6 tO6 false))):=by kernel_rfl
noncomputable def tO(r k:Nat):Oper:=((match r with|0=>tO0|1=>tO1|2=>tO2|3=>tO3|4=>tO4|5=>tO5|6=>tO6|_=>tO7)[k]?).getD default
noncomputable def qeN:Code:=Tryz.f104.body.getD .skip
noncomputable def kO0:Array Oper:=match qeN with | .seq c _=>opsOf c|_=>#[]
noncomputable def kO1:Array Oper:=match qeN with | .seq _ c=>opsOf c|_=>#[]
theorem k_body:qeN=.seq (.region 0 kO0 false) (.region 1 kO1 true):=by kernel_rfl
noncomputable def kO(r k:Nat):Oper:=((match r with|0=>kO0|_=>kO1)[k]?).getD default
theorem ZH:Tryz.prog.funcs[71]? = some Tryz.f71:=by kernel_rfl
theorem XO:Tryz.prog.funcs[96]? = some Tryz.f96:=by kernel_rfl
theorem t_size0:tO0.size=5:=by kernel_rfl
theorem t_at0_0:tO0[0]? = some (tO 0 0):=by kernel_rfl
theorem t_g0_0:(tO 0 0).guard=none:=by kernel_rfl
theorem t_d0_0:(tO 0 0).dst=some 4:=by kernel_rfl
theorem t_op0_0:(tO 0 0).op=.box 73 (.tmp 0):=by kernel_rfl
theorem t_at0_1:tO0[1]? = some (tO 0 1):=by kernel_rfl
theorem t_g0_1:(tO 0 1).guard=none:=by kernel_rfl
theorem t_d0_1:(tO 0 1).dst=some 5:=by kernel_rfl
theorem t_op0_1:(tO 0 1).op=.box 74 (.tmp 1):=by kernel_rfl
theorem t_at0_2:tO0[2]? = some (tO 0 2):=by kernel_rfl
theorem t_g0_2:(tO 0 2).guard=none:=by kernel_rfl
theorem t_d0_2:(tO 0 2).dst=some 6:=by kernel_rfl
theorem t_op0_2:(tO 0 2).op=.box 86 (.tmp 2):=by kernel_rfl
theorem t_at0_3:tO0[3]? = some (tO 0 3):=by kernel_rfl
theorem t_g0_3:(tO 0 3).guard=none:=by kernel_rfl
theorem t_d0_3:(tO 0 3).dst=some 7:=by kernel_rfl
theorem t_op0_3:(tO 0 3).op=.box 81 (.tmp 3):=by kernel_rfl
theorem t_at0_4:tO0[4]? = some (tO 0 4):=by kernel_rfl
theorem t_g0_4:(tO 0 4).guard=none:=by kernel_rfl
theorem t_d0_4:(tO 0 4).dst=some 8:=by kernel_rfl
theorem t_op0_4:(tO 0 4).op=.assign (.const (.int .i64 0)):=by kernel_rfl
theorem t_size1:tO1.size=3:=by kernel_rfl
theorem t_at1_0:tO1[0]? = some (tO 1 0):=by kernel_rfl
theorem t_g1_0:(tO 1 0).guard=none:=by kernel_rfl
theorem t_d1_0:(tO 1 0).dst=some 11:=by kernel_rfl
theorem t_op1_0:(tO 1 0).op=.makeChan 135 (.const (.int .i64 0)):=by kernel_rfl
theorem t_at1_1:tO1[1]? = some (tO 1 1):=by kernel_rfl
theorem t_g1_1:(tO 1 1).guard=none:=by kernel_rfl
theorem t_d1_1:(tO 1 1).dst=some 9:=by kernel_rfl
theorem t_op1_1:(tO 1 1).op=.alloc 135:=by kernel_rfl
theorem t_at1_2:tO1[2]? = some (tO 1 2):=by kernel_rfl
theorem t_g1_2:(tO 1 2).guard=none:=by kernel_rfl
theorem t_d1_2:(tO 1 2).dst=none:=by kernel_rfl
theorem t_op1_2:(tO 1 2).op=.store 135 (.tmp 9) (.tmp 11):=by kernel_rfl
theorem t_size2:tO2.size=2:=by kernel_rfl
theorem t_at2_0:tO2[0]? = some (tO 2 0):=by kernel_rfl
theorem t_g2_0:(tO 2 0).guard=none:=by kernel_rfl
theorem t_d2_0:(tO 2 0).dst=some 12:=by kernel_rfl
theorem t_op2_0:(tO 2 0).op=.makeFunc (.func 104) #[] #[.tmp 9,.tmp 4,.tmp 5,.tmp 6,.tmp 7]:=by kernel_rfl
theorem t_at2_1:tO2[1]? = some (tO 2 1):=by kernel_rfl
theorem t_g2_1:(tO 2 1).guard=none:=by kernel_rfl
theorem t_d2_1:(tO 2 1).dst=none:=by kernel_rfl
theorem t_op2_1:(tO 2 1).op=.go { callee:=.value (.tmp 12),args:=#[],argTypes:=#[] }:=by kernel_rfl
theorem t_size3:tO3.size=1:=by kernel_rfl
theorem t_at3_0:tO3[0]? = some (tO 3 0):=by kernel_rfl
theorem t_g3_0:(tO 3 0).guard=none:=by kernel_rfl
theorem t_d3_0:(tO 3 0).dst=some 10:=by kernel_rfl
theorem t_op3_0:(tO 3 0).op=.assign (.const (.int .i64 0)):=by kernel_rfl
theorem t_size4:tO4.size=1:=by kernel_rfl
theorem t_at4_0:tO4[0]? = some (tO 4 0):=by kernel_rfl
theorem t_g4_0:(tO 4 0).guard=none:=by kernel_rfl
theorem t_d4_0:(tO 4 0).dst=some 13:=by kernel_rfl
theorem t_op4_0:(tO 4 0).op=.load 135 (.tmp 9):=by kernel_rfl
theorem t_size5:tO5.size=2:=by kernel_rfl
theorem qfU:tO5[0]? = some (tO 5 0):=by kernel_rfl
theorem t_g5_0:(tO 5 0).guard=none:=by kernel_rfl
theorem t_d5_0:(tO 5 0).dst=some 14:=by kernel_rfl
theorem t_op5_0:(tO 5 0).op=.recv 135 (.tmp 13) true:=by kernel_rfl
theorem qfV:tO5[1]? = some (tO 5 1):=by kernel_rfl
theorem t_g5_1:(tO 5 1).guard=none:=by kernel_rfl
theorem t_d5_1:(tO 5 1).dst=some 15:=by kernel_rfl
theorem qfW:(tO 5 1).op=.extract (.tmp 14) 1:=by kernel_rfl
theorem t_size6:tO6.size=2:=by kernel_rfl
theorem t_at6_0:tO6[0]? = some (tO 6 0):=by kernel_rfl
theorem t_g6_0:(tO 6 0).guard=none:=by kernel_rfl
theorem t_d6_0:(tO 6 0).dst=some 16:=by kernel_rfl
theorem t_op6_0:(tO 6 0).op=.extract (.tmp 14) 0:=by kernel_rfl
theorem t_at6_1:tO6[1]? = some (tO 6 1):=by kernel_rfl
theorem t_g6_1:(tO 6 1).guard=none:=by kernel_rfl
theorem t_d6_1:(tO 6 1).dst=some 10:=by kernel_rfl
theorem t_op6_1:(tO 6 1).op=.assign (.tmp 16):=by kernel_rfl
theorem t_size7:tO7.size=2:=by kernel_rfl
theorem t_at7_0:tO7[0]? = some (tO 7 0):=by kernel_rfl
theorem t_g7_0:(tO 7 0).guard=none:=by kernel_rfl
theorem t_d7_0:(tO 7 0).dst=some 17:=by kernel_rfl
theorem t_op7_0:(tO 7 0).op=.move (.tmp 10):=by kernel_rfl
theorem t_at7_1:tO7[1]? = some (tO 7 1):=by kernel_rfl
theorem t_g7_1:(tO 7 1).guard=none:=by kernel_rfl
theorem t_d7_1:(tO 7 1).dst=some 8:=by kernel_rfl
theorem t_op7_1:(tO 7 1).op=.assign (.tmp 17):=by kernel_rfl
theorem k_size0:kO0.size=2:=by kernel_rfl
theorem k_at0_0:kO0[0]? = some (kO 0 0):=by kernel_rfl
theorem k_g0_0:(kO 0 0).guard=none:=by kernel_rfl
theorem k_d0_0:(kO 0 0).dst=some 5:=by kernel_rfl
theorem k_op0_0:(kO 0 0).op=.load 135 (.tmp 0):=by kernel_rfl
theorem qeO:kO0[1]? = some (kO 0 1):=by kernel_rfl
theorem k_g0_1:(kO 0 1).guard=none:=by kernel_rfl
theorem k_d0_1:(kO 0 1).dst=none:=by kernel_rfl
theorem qeS:(kO 0 1).op=.defer { callee:=.builtin .close,args:=#[.tmp 5],argTypes:=#[135] }:=by kernel_rfl
theorem k_size1:kO1.size=10:=by kernel_rfl
theorem qeP:kO1[0]? = some (kO 1 0):=by kernel_rfl
theorem k_g1_0:(kO 1 0).guard=none:=by kernel_rfl
theorem k_d1_0:(kO 1 0).dst=some 6:=by kernel_rfl
theorem qeT:(kO 1 0).op=.load 135 (.tmp 0):=by kernel_rfl
theorem k_at1_1:kO1[1]? = some (kO 1 1):=by kernel_rfl
theorem k_g1_1:(kO 1 1).guard=none:=by kernel_rfl
theorem k_d1_1:(kO 1 1).dst=some 7:=by kernel_rfl
theorem k_op1_1:(kO 1 1).op=.fieldAddr 73 (.tmp 1) 0:=by kernel_rfl
theorem k_at1_2:kO1[2]? = some (kO 1 2):=by kernel_rfl
theorem k_g1_2:(kO 1 2).guard=none:=by kernel_rfl
theorem k_d1_2:(kO 1 2).dst=some 8:=by kernel_rfl
theorem k_op1_2:(kO 1 2).op=.load 28 (.tmp 7):=by kernel_rfl
theorem k_at1_3:kO1[3]? = some (kO 1 3):=by kernel_rfl
theorem k_g1_3:(kO 1 3).guard=none:=by kernel_rfl
theorem k_d1_3:(kO 1 3).dst=some 9:=by kernel_rfl
theorem k_op1_3:(kO 1 3).op=.makeMap 71 none:=by kernel_rfl
theorem k_at1_4:kO1[4]? = some (kO 1 4):=by kernel_rfl
theorem k_g1_4:(kO 1 4).guard=none:=by kernel_rfl
theorem k_d1_4:(kO 1 4).dst=some 10:=by kernel_rfl
theorem qeU:(kO 1 4).op=.build 73 #[(0,.tmp 8),(1,.tmp 9)]:=by kernel_rfl
theorem k_at1_5:kO1[5]? = some (kO 1 5):=by kernel_rfl
theorem k_g1_5:(kO 1 5).guard=none:=by kernel_rfl
theorem k_d1_5:(kO 1 5).dst=some 11:=by kernel_rfl
theorem k_op1_5:(kO 1 5).op=.load 74 (.tmp 2):=by kernel_rfl
theorem k_at1_6:kO1[6]? = some (kO 1 6):=by kernel_rfl
theorem k_g1_6:(kO 1 6).guard=none:=by kernel_rfl
theorem k_d1_6:(kO 1 6).dst=some 12:=by kernel_rfl
theorem k_op1_6:(kO 1 6).op=.load 86 (.tmp 3):=by kernel_rfl
theorem k_at1_7:kO1[7]? = some (kO 1 7):=by kernel_rfl
theorem k_g1_7:(kO 1 7).guard=none:=by kernel_rfl
theorem k_d1_7:(kO 1 7).dst=some 13:=by kernel_rfl
theorem k_op1_7:(kO 1 7).op=.load 81 (.tmp 4):=by kernel_rfl
theorem qeQ:kO1[8]? = some (kO 1 8):=by kernel_rfl
theorem k_g1_8:(kO 1 8).guard=none:=by kernel_rfl
theorem k_d1_8:(kO 1 8).dst=some 14:=by kernel_rfl
theorem qeV:(kO 1 8).op=.call { callee:=.value (.func 96),args:=#[.tmp 10,.tmp 11,.tmp 12,.tmp 13],argTypes:=#[73,74,86,81] }:=by kernel_rfl
theorem qeR:kO1[9]? = some (kO 1 9):=by kernel_rfl
theorem k_g1_9:(kO 1 9).guard=none:=by kernel_rfl
theorem k_d1_9:(kO 1 9).dst=none:=by kernel_rfl
theorem qeW:(kO 1 9).op=.send (.tmp 6) (.tmp 14):=by kernel_rfl
end Go.Proofs.Tryz
section
namespace Go.Proofs.Tryz
open Go Go.Conc Go.Sim Go.RowKit
open Go.ConcN (upd upd_ne upd_same)
def sb:Frame:=base 71
theorem Xv:sb.kind≠.early:=qea _
theorem qfT(xs:Array Value):Frame.enter qp 71 xs .normal=sb.at ⟨fT 17 (qaQ 17 xs),[]⟩ [.code QO]:=qcc xs Zk rfl rfl
def boxes(w:World)(x0 x1 x2 x3:Value):World:=(((w.alloc (.cells x0.cells 73 (0,0))).alloc (.cells x1.cells 74 (0,0))).alloc (.cells x2.cells 86 (0,0))).alloc (.cells x3.cells 81 (0,0))
section
variable {w:World} {x0 x1 x2 x3:Value}
theorem xQ(w:World)(o:Obj):(w.alloc o).heap[w.heap.size]? = some o:=by show(w.heap.push o)[w.heap.size]? = _;simp
theorem ze(w:World)(o:Obj){b:Nat}(h:b<w.heap.size):(w.alloc o).heap[b]? = w.heap[b]? := by show(w.heap.push o)[b]? = _;rw[Array.getElem?_push_lt h,Array.getElem?_eq_getElem h]
theorem zm(w:World)(o:Obj):(w.alloc o).heap.size=w.heap.size+1:=by show(w.heap.push o).size=_;simp
theorem zn:(boxes w x0 x1 x2 x3).heap.size=w.heap.size+4:=by unfold boxes;simp only[zm]
theorem QR{b:Nat}(h:b<w.heap.size):(boxes w x0 x1 x2 x3).heap[b]? = w.heap[b]? := by
 unfold boxes;rw[ze _ _ (by simp only[zm];omega),ze _ _ (by simp only[zm];omega),ze _ _ (by simp only[zm];omega),ze _ _ h]
theorem Zt:(boxes w x0 x1 x2 x3).heap[w.heap.size]? = some (.cells x0.cells 73 (0,0)):=by
 unfold boxes;rw[ze _ _ (by simp only[zm];omega),ze _ _ (by simp only[zm];omega),ze _ _ (by simp only[zm];omega),xQ]
theorem Zu:(boxes w x0 x1 x2 x3).heap[w.heap.size+1]? = some (.cells x1.cells 74 (0,0)):=by
 unfold boxes;rw[ze _ _ (by simp only[zm];omega),ze _ _ (by simp only[zm];omega),<-zm w (.cells x0.cells 73 (0,0)),xQ]
theorem Zv:(boxes w x0 x1 x2 x3).heap[w.heap.size+2]? = some (.cells x2.cells 86 (0,0)):=by
 unfold boxes;rw[ze _ _ (by simp only[zm];omega)];have e:w.heap.size+2=((w.alloc (.cells x0.cells 73 (0,0))).alloc (.cells x1.cells 74 (0,0))).heap.size:=by simp only[zm]
 rw[e,xQ]
theorem Zw:(boxes w x0 x1 x2 x3).heap[w.heap.size+3]? = some (.cells x3.cells 81 (0,0)):=by
 unfold boxes;have e:w.heap.size+3=(((w.alloc (.cells x0.cells 73 (0,0))).alloc (.cells x1.cells 74 (0,0))).alloc (.cells x2.cells 86 (0,0))).heap.size:=by simp only[zm]
 rw[e,xQ]
end
section
variable {P:Program} {w w1:World}
theorem load_agg{t:TypeId}{ad:Addr}{c:Array Value}{e:TypeId}{f:Nat×Nat}{v:Value}{n:Nat}(hb:w.heap[ad.block]? = some (.cells c e f))(ha:∀w,(isAgg t).run P w=.ok true w)(hs:∀w,(sizeOf t).run P w=.ok n w)(hr:(Instr.loadAt t (.pointer (some ad))).run P w=.ok v w1):∃xs,v=.agg xs/\xs.size=n:=by
 unfold Instr.loadAt at hr;have h1:∀w,(Instr.sureAddr (.pointer (some ad))).run P w=.ok ad w:=fun w=>by simp[Instr.sureAddr]
 simp only[Sem.run_bind,h1,Result.andThen_ok]at hr;unfold Go.loadVar Go.loadCells at hr;simp only[Sem.run_bind,ha,hs,Result.andThen_ok,if_true]at hr
 have key:∀(k i:Nat) (acc xs:Array Value) (w2:World),(loadCellsFrom ad i k acc).run P w=.ok xs w2->xs.size=acc.size+k:=by
  intro k
  induction k with
  | zero=>intro i acc xs w2 h;simp[loadCellsFrom]at h;rw[h.1];simp
  | succ k ih =>
    intro i acc xs w2 h;simp only[loadCellsFrom,Sem.run_bind]at h
    cases hl:(load (ad.add i)).run P w with
    | halt x wx=>rw[hl]at h;simp at h
    | ok y wx =>
      obtain⟨hwx,_⟩:=qbm (by rw[add_block];exact hb) hl;rw[hl,Result.andThen_ok,hwx]at h;have:=ih _ _ _ _ h;simp at this;omega
 cases hl:(loadCellsFrom ad 0 n #[]).run P w with
 | halt x wx=>rw[hl]at hr;simp at hr
 | ok xs wx =>
   rw[hl]at hr;simp only[Result.andThen_ok,Sem.run_pure,Result.ok.injEq]at hr;have:=key _ _ _ _ _ hl;exact⟨xs,hr.1.symm,by simpa using this⟩
end
theorem agg5{xs:Array Value}(h:xs.size=5):∃a b c d e,xs=#[a,b,c,d,e]:=by
 obtain⟨l⟩:=xs
 match l,h with
 | [a,b,c,d,e],_=>exact⟨a,b,c,d,e,rfl⟩
section
variable {K:Cfg} {g:Nat->Bool} {Fin:Goroutine->World->Prop} {q0:Goroutine} {w0 w w1:World} {c:Nat->Bool} {v:Nat->Value} {cf:Frame} {cr:List Frame}
abbrev SD(K:Cfg)(g:Nat->Bool)(Fin:Goroutine->World->Prop)(q0:Goroutine)(w0:World)(v:Nat->Value)(kk:List Item)(cs:List Frame)(w:World):Prop:=Dn K qp g Fin q0 w0 (G (sb.at ⟨fT 17 v,[]⟩ kk) cs) w
structure Loaded (P:Program) (w:World) (B:Nat) (y0 y1 y2 y3 y4 lv sv mv:Value):Prop where
 d:(Instr.loadAt 28 (.pointer (some ⟨B,0,none⟩))).run P w=.ok (.agg #[y0,y1,y2,y3,y4]) w
 l:(Instr.loadAt 74 (.pointer (some ⟨B+1,0,none⟩))).run P w=.ok lv w
 s:(Instr.loadAt 86 (.pointer (some ⟨B+2,0,none⟩))).run P w=.ok sv w
 m:(Instr.loadAt 81 (.pointer (some ⟨B+3,0,none⟩))).run P w=.ok mv w
theorem qey{ev:Operand->Value}{o:Oper}{x:Operand}{b:Nat}(hop:o.op=.fieldAddr 73 x 0)(hx:ev x=.pointer (some ⟨b,0,none⟩)):(execOp ev o).run qp w=.ok (.value (.pointer (some ⟨b,0,none⟩))) w:=by
 unfold execOp;simp only[hop,hx];go_simp
theorem qcX{ev:Operand->Value}{o:Oper}{x:Operand}{b:Nat}(hop:o.op=.fieldAddr 73 x 0)(hx:ev x=.pointer (some ⟨b,0,none⟩)):(execOp ev o).run Tryz.prog w=.ok (.value (.pointer (some ⟨b,0,none⟩))) w/\(execOp ev o).events Tryz.prog w #[]=#[]:=by
 constructor
 ·unfold execOp;simp only[hop,hx];go_simp
 ·unfold execOp;simp only[hop,hx];simp[go_sem,Instr.fieldAt]
theorem qcO{Q P:Program}(h:Q.toTables=P.toTables)(t:TypeId)(l:List (Nat×Value)):Q.built t l=P.built t l:=by
 obtain⟨T',f'⟩:=Q;obtain⟨T,f⟩:=P;simp only at h;subst h;rfl
theorem qcS(y0 y1 y2 y3 y4:Value)(b:Nat):Tryz.prog.built 73 [(0,.agg #[y0,y1,y2,y3,y4]),(1,.map (some b))]=some #[y0,y1,y2,y3,y4,.map (some b)]:=by kernel_rfl
theorem JQ(P:Program)(hP:P.toTables=Tryz.prog.toTables)(y0 y1 y2 y3 y4:Value)(b:Nat):P.built 73 [(0,.agg #[y0,y1,y2,y3,y4]),(1,.map (some b))]=some #[y0,y1,y2,y3,y4,.map (some b)]:=(qcO hP _ _).trans (qcS ..)
theorem qei{P:Program}(hP:P.toTables=Tryz.prog.toTables){ev:Operand->Value}{o:Oper}{x m:Operand}{y0 y1 y2 y3 y4:Value}{b:Nat}(hop:o.op=.build 73 #[(0,x),(1,m)])(hx:ev x=.agg #[y0,y1,y2,y3,y4])(hm:ev m=.map (some b)):(execOp ev o).run P w=.ok (.value (.agg #[y0,y1,y2,y3,y4,.map (some b)])) w:=by
 have h:=run_build (P:=P) w 73 #[(0,.agg #[y0,y1,y2,y3,y4]),(1,.map (some b))] _ (JQ P hP y0 y1 y2 y3 y4 b);unfold execOp;simp only[hop,List.map_toArray,List.map_cons,List.map_nil,hx,hm,Sem.run_bind,h,Result.andThen_ok,Sem.run_pure]
theorem qcT{ev:Operand->Value}{o:Oper}{x m:Operand}{y0 y1 y2 y3 y4:Value}{b:Nat}(hop:o.op=.build 73 #[(0,x),(1,m)])(hx:ev x=.agg #[y0,y1,y2,y3,y4])(hm:ev m=.map (some b)):(execOp ev o).events Tryz.prog w #[]=#[]:=by
 have h:=run_build (P:=Tryz.prog) w 73 #[(0,.agg #[y0,y1,y2,y3,y4]),(1,.map (some b))] _ (JQ Tryz.prog rfl y0 y1 y2 y3 y4 b);unfold execOp;simp only[hop,List.map_toArray,List.map_cons,List.map_nil,hx,hm,Sem.events_bind,h,Result.evThen_ok,Sem.events_pure];simp[go_sem,Instr.build]
theorem Dn.leave1{P':Program}(Z:Cov K P' P' c g (fun _=>False)){b:Frame}{T:Array Value}{kk:List Item}{fn:Func}{t:Nat}(h:Dn K P' g Fin q0 w0 (G (b.at ⟨T,[]⟩ (.code .ret::kk)) (cf::cr)) w)(hcr:cr≠[])(hn:b.kind=.normal)(hf:P'.funcs[b.fn]? = some fn)(hr:fn.results=#[.tmp t]) :
 Dn K P' g Fin q0 w0 (G (cf.finish (T.getD t undef)) cr) w:=by
 have h1:=h.step Z zg stepG_ret';refine h1.step Z (fun hl=>?_) (stepG_leave hn rfl hf (results_tmp hr _ P' w) (events_results_tmp hr _ _));have:=hl.2.2;simp only[G,List.cons.injEq]at this;exact hcr this.2
theorem src_back(Zs:Cov K qp qp c g (fun _=>False))(hcr:cr≠[]){y:Value}(hD:Dn K qp g Fin q0 w0 (G (sb.at (Go.Act.put ⟨fT 17 v,[]⟩ ((sO[11]?).bind (·.dst)) y) (.inRegion sO [12]::[.code .ret])) (cf::cr)) w):Dn K qp g Fin q0 w0 (G (cf.finish y) cr) w:=by
 rw[show(sO[11]?).bind (·.dst)=some 16 from rfl,yG (by decide)]at hD
 replace hD:=hD.valF (x:=y) Zs Xv sO[12] 8 rfl rfl rfl (by decide) (w1:=w) (by
  unfold execOp;simp only[show sO[12].op=.assign (.tmp 16)from rfl,qU (show 16<17 by decide),upd_same]
  go_simp)
 replace hD:=hD.rend Zs;have:=Dn.leave1 Zs hD hcr rfl Zk (t:=8) (by kernel_rfl);rw[qet (by decide),upd_same]at this;exact this
theorem src_call(Zs:Cov K qp qp c g (fun _=>False)){x y z u:Value}(hD:SD K g Fin q0 w0 v (.inRegion sO [11,12]::[.code .ret]) (cf::cr) w)(h15:v 15=x)(h12:v 12=y)(h13:v 13=z)(h14:v 14=u) :
 Dn K qp g Fin q0 w0 (G (Frame.enter qp 96 #[x,y,z,u] .normal) (sb.at ⟨fT 17 v,[]⟩ (.inRegion sO [11,12]::[.code .ret])::cf::cr)) w:=by
 replace hD:=Dn.step Zs hD zg (stepG_enter (o:=sO[11]) rfl (by unfold Region.wanted;rfl) Xv (run_call_body (o:=sO[11]) (f:=96) (args:=#[.tmp 15,.tmp 12,.tmp 13,.tmp 14]) (ats:=#[73,74,86,81]) rfl (sf 96 f96) (by kernel_rfl) (by kernel_rfl)))
 have e:(#[Operand.tmp 15,.tmp 12,.tmp 13,.tmp 14]).map (Go.Act.eval ⟨fT 17 v,[]⟩)=#[x,y,z,u]:=by
  simp only[List.map_toArray,List.map_cons,List.map_nil];rw[qU (by decide),qU (by decide),qU (by decide),qU (by decide),h15,h12,h13,h14]
 rw[e]at hD;exact hD
theorem src_walk(Zs:Cov K qp qp c g (fun _=>False)){xs:Array Value}(hD:SD K g Fin q0 w0 (qaQ 17 xs) [.code QO] (cf::cr) w) :
 ∃(v:Nat->Value) (y0 y1 y2 y3 y4 lv sv mv:Value),Loaded qp ((boxes w (xs.getD 0 undef) (xs.getD 1 undef) (xs.getD 2 undef) (xs.getD 3 undef)).alloc (.map #[] 0)) w.heap.size y0 y1 y2 y3 y4 lv sv mv /\
  Dn K qp g Fin q0 w0 (G (Frame.enter qp 96 #[.agg #[y0,y1,y2,y3,y4,.map (some (w.heap.size+4))],lv,sv,mv] .normal) (sb.at ⟨fT 17 v,[]⟩ (.inRegion sO [11,12]::[.code .ret])::cf::cr)) ((boxes w (xs.getD 0 undef) (xs.getD 1 undef) (xs.getD 2 undef) (xs.getD 3 undef)).alloc (.map #[] 0)):=by
 replace hD:=(hD.seq Zs).region Zs;change SD K g Fin q0 w0 _ (.inRegion sO [0,1,2,3,4,5,6,7,8,9,10,11,12]::_) _ w at hD;obtain⟨x0,e0⟩:∃x,x=xs.getD 0 undef:=⟨_,rfl⟩;obtain⟨x1,e1⟩:∃x,x=xs.getD 1 undef:=⟨_,rfl⟩;obtain⟨x2,e2⟩:∃x,x=xs.getD 2 undef:=⟨_,rfl⟩;obtain⟨x3,e3⟩:∃x,x=xs.getD 3 undef:=⟨_,rfl⟩;rw[<-e0,<-e1,<-e2,<-e3];obtain⟨v0,hv0⟩:∃v,v=qaQ 17 xs:=⟨_,rfl⟩;have k0:v0 0=x0:=by rw[hv0,e0];rfl
 have k1:v0 1=x1:=by rw[hv0,e1];rfl
 have k2:v0 2=x2:=by rw[hv0,e2];rfl
 have k3:v0 3=x3:=by rw[hv0,e3];rfl
 rw[<-hv0]at hD;clear hv0 e0 e1 e2 e3;replace hD:=hD.valF Zs Xv _ 4 rfl rfl rfl (by decide) (YH (z:=x0) rfl (by rw[qU (by decide)];exact k0) _).1;replace hD:=hD.valF Zs Xv _ 5 rfl rfl rfl (by decide) (YH (z:=x1) rfl (by rw[qU (by decide)];simp[upd];exact k1) _).1;replace hD:=hD.valF Zs Xv _ 6 rfl rfl rfl (by decide) (YH (z:=x2) rfl (by rw[qU (by decide)];simp[upd];exact k2) _).1;replace hD:=hD.valF Zs Xv _ 7 rfl rfl rfl (by decide) (YH (z:=x3) rfl (by rw[qU (by decide)];simp[upd];exact k3) _).1;change SD K g Fin q0 w0 _ _ _ (boxes w x0 x1 x2 x3)at hD;simp only[zm]at hD;replace hD:=hD.valF Zs Xv _ 9 rfl rfl rfl (by decide) (qfg rfl _).1;rw[zn]at hD;obtain⟨ws,hws⟩:∃ws,ws=(boxes w x0 x1 x2 x3).alloc (.map #[] 0):=⟨_,rfl⟩;rw[<-hws]at hD⊢;have hb:∀b,b<w.heap.size+4->ws.heap[b]? = (boxes w x0 x1 x2 x3).heap[b]? := fun b h=>by rw[hws];exact ze _ _ (by rw[zn];exact h)
 have b0:=(hb w.heap.size (by omega)).trans Zt;have b1:=(hb (w.heap.size+1) (by omega)).trans Zu;have b2:=(hb (w.heap.size+2) (by omega)).trans Zv;have b3:=(hb (w.heap.size+3) (by omega)).trans Zw;clear hb hws k0 k1 k2 k3;obtain⟨v1,hv1,k4,k5,k6,k7,k9⟩:∃v:Nat->Value,v=upd (upd (upd (upd (upd v0 4 (.pointer (some ⟨w.heap.size,0,none⟩))) 5 (.pointer (some ⟨w.heap.size+1,0,none⟩))) 6 (.pointer (some ⟨w.heap.size+2,0,none⟩))) 7 (.pointer (some ⟨w.heap.size+3,0,none⟩))) 9 (.map (some (w.heap.size+4)))/\v 4=.pointer (some ⟨w.heap.size,0,none⟩)/\v 5=.pointer (some ⟨w.heap.size+1,0,none⟩)/\v 6=.pointer (some ⟨w.heap.size+2,0,none⟩)/\v 7=.pointer (some ⟨w.heap.size+3,0,none⟩)/\v 9=.map (some (w.heap.size+4)):=⟨_,rfl,by simp[upd],by simp[upd],by simp[upd],by simp[upd],by simp[upd]⟩;replace hD:SD K g Fin q0 w0 v1 (.inRegion sO [5,6,7,8,9,10,11,12]::[.code .ret]) (cf::cr) ws:=by rw[hv1];exact hD
 clear hv1;replace hD:=hD.valF Zs Xv _ 10 rfl rfl rfl (by decide) (qey (b:=w.heap.size) rfl (by rw[qU (by decide)];exact k4))
 have load:∀{v:Nat->Value} {i k:Nat} {rest:List Nat} {t:TypeId} {x:Nat} {b:Nat} {cc:Array Value} {e:TypeId} {f:Nat×Nat},SD K g Fin q0 w0 v (.inRegion sO (i::rest)::[.code .ret]) (cf::cr) ws->∀o:Oper,sO[i]? = some o->o.op=.load t (.tmp x)->o.guard=none->o.dst=some k->k<17->x<17->v x=.pointer (some ⟨b,0,none⟩)->ws.heap[b]? = some (.cells cc e f) ->
  ∃y,(Instr.loadAt t (.pointer (some ⟨b,0,none⟩))).run qp ws=.ok y ws/\SD K g Fin q0 w0 (upd v k y) (.inRegion sO rest::[.code .ret]) (cf::cr) ws:=by
  intro v i k rest t x b cc e f hD o ho hop hg hd hk hx hv hb;obtain⟨n,w',hr⟩:=hD.ok2 Zs ho hg rfl;obtain⟨y,hl,rfl⟩:=qbn hop hr;rw[qU hx,hv]at hl;obtain⟨rfl,_,_⟩:=xI (ad:=⟨b,0,none⟩) hb rfl hl;exact⟨y,hl,hD.valF Zs Xv o k ho hg hd hk hr⟩
 obtain⟨d,l28,hD⟩:=load hD _ rfl rfl rfl rfl (by decide) (by decide) (upd_same _ _ _) b0;obtain⟨ys,rfl,hys⟩:=load_agg (ad:=⟨w.heap.size,0,none⟩) (n:=5) b0 (fun w=>by rw[qX];exact Tryz.isAgg28 w) (fun w=>by rw[qO];exact Tryz.sizeOf28 w) l28;obtain⟨y0,y1,y2,y3,y4,rfl⟩:=agg5 hys;obtain⟨lv,l75,hD⟩:=load hD _ rfl rfl rfl rfl (by decide) (by decide) (by simp[upd];exact k5) b1;obtain⟨sv,l87,hD⟩:=load hD _ rfl rfl rfl rfl (by decide) (by decide) (by simp[upd];exact k6) b2;obtain⟨mv,l82,hD⟩:=load hD _ rfl rfl rfl rfl (by decide) (by decide) (by simp[upd];exact k7) b3;replace hD:=hD.valF Zs Xv sO[10] 15 rfl rfl rfl (by decide) (qei zo (b:=w.heap.size+4) (y0:=y0) (y1:=y1) (y2:=y2) (y3:=y3) (y4:=y4) rfl (by rw[qU (by decide)];simp[upd]) (by rw[qU (by decide)];simp[upd];exact k9));exact⟨_,y0,y1,y2,y3,y4,lv,sv,mv,⟨l28,l75,l87,l82⟩,src_call Zs hD (by simp[upd]) (by simp[upd]) (by simp[upd]) (by simp[upd])⟩
end
end Go.Proofs.Tryz
end
section
namespace Go.Sim
open Go Go.Instr Go.Conc
open Go.ConcN (sumTo upd sumTo_upd upd_ne upd_same)
section
variable {P:Program} {S Bx:Nat->Prop} {ch:Nat} {z:Value} {ok:Bool} {Q:Goroutine->World->Prop}
theorem qag{gs:Array Goroutine}{a:Goroutine}{w':World}{t:Trace}{qq:Nat->Nat}(h0:gs[0]? = some a)(hrun:a.status=.running)(hL:Leavers P t gs qq)(hP:Past (zR S) w'.heap.size t)(hN:∀(i:Nat) (op:MemOp),t[i]? = some op->op.g<gs.size)
 {i d:Nat} {x:Goroutine} {sl':Option (Nat×Nat)} (hi:gs[i]? = some x) (hx:x.status=.running) (hpos:0<i) :
 ∃gs2 t2 qq2,runT P (crowd gs (w'.at d) sl') i=(.next (crowd gs2 (w'.at d) sl'),t2)/\gs2.size=gs.size/\sumTo gs2.size qq2<sumTo gs.size qq/\gs2[0]? = some a/\Leavers P (t++t2) gs2 qq2/\Past (zR S) w'.heap.size (t++t2)/\∀(i:Nat) (op:MemOp),(t++t2)[i]? = some op->op.g<gs2.size:=by
 have hq1:=hL.old i x hpos hi;have hi0:(i==0)=false:=by simp;omega
 have hlt:i<gs.size:=(qy hi).1
 cases hqi:qq i with
 | zero=>rw[hqi]at hq1;rw[hq1.1]at hx;cases hx
 | succ k =>
   rw[hqi]at hq1;rcases hq1 with⟨hf,_⟩|⟨_,g',es,hm,hstp,hq'⟩
   ·rw[hf]at hx;cases hx
   have hrunT:=runT_crowd_go (P:=P) (sl:=sl') (i:=i) hi (by rw[hi0];exact hstp (w'.at d))
   have hsum:sumTo gs.size (upd qq i k)+(k+1)=sumTo gs.size qq+k:=by
    have:=sumTo_upd qq k id hlt;simpa[hqi]using this
   refine⟨_,_,upd qq i k,hrunT,by simp,by simp;omega,?_,⟨fun j y hj hy=>?_,fun j hj=>?_⟩,hP.mute (by omega) hm,zu hN (by simp) fun op hop=>by obtain⟨e,_,rfl⟩:=Go.Conc.mem_ofEvents hop;simpa using hlt⟩
   ·have hne:i≠0:=(by omega);rw[qJ hne,Array.getElem?_map,h0];simp[woken_run hrun]
   ·by_cases hji:i=j
    ·subst hji;rw[Array.getElem?_setIfInBounds_self_of_lt (by simpa using hlt)]at hy;obtain rfl:=qz hy;rw[upd_same,Deaf_own];exact hq'
    ·rw[qJ hji,Array.getElem?_map]at hy;obtain⟨z,hz,rfl⟩:=Option.map_eq_some_iff.1 hy;have hqj:=hL.old j z hj hz;rw[woken_quitsD hqj,upd_ne qq k (Ne.symm hji),Deaf_other t hji _ (fun op hop=>by obtain⟨e,_,rfl⟩:=Go.Conc.mem_ofEvents hop;rfl)];exact hqj
   ·rw[Deaf_other t (g':=i) (by simp at hj;omega) _ (fun op hop=>by obtain⟨e,_,rfl⟩:=Go.Conc.mem_ofEvents hop;rfl)];exact hL.above j (by simpa using hj)
theorem RM.fork{m:Nat}{gs:Array Goroutine}{a a' child:Goroutine}{w':World}{sl:Option (Nat×Nat)}{t:Trace}(hR:RM P S gs a w' t)(hrun:a.status=.running)(hc:child.status=.running)(hsp:∀d,stepG P true a (w'.at d)=.spawn a' child (w'.at d) #[])
 (hbx:∀b,Bx b->b<w'.heap.size/\¬S b) (hch:Bx ch/\∃s tm,w'.heap[ch]? = some (.chan 0 #[] false s s tm)) (hst:Stand P Bx ch z ok Q m a' w') :
 ∃(N:Nat) (gs1:Array Goroutine) (d:Nat) (sl1:Option (Nat×Nat)) (t1:Trace) (j:Nat) (qq:Nat->Nat),runNT P N (crowd gs w' sl) t=(.next (crowd gs1 (w'.at d) sl1),t1)/\RMJ P S Bx ch z ok Q j gs1 child (w'.at d) t1 m qq:=by
 obtain⟨h0,⟨qq,hL⟩,hP,hN⟩:=hR
 have key:∀(M:Nat) (gs:Array Goroutine) (d0:Nat) (sl:Option (Nat×Nat)) (t:Trace) (qq:Nat->Nat),sumTo gs.size qq<=M->gs[0]? = some a->Leavers P t gs qq->Past (zR S) w'.heap.size t->(∀(i:Nat) (op:MemOp),t[i]? = some op->op.g<gs.size) ->
  ∃(N:Nat) (gs1:Array Goroutine) (d:Nat) (sl1:Option (Nat×Nat)) (t1:Trace) (j:Nat) (qq:Nat->Nat),runNT P N (crowd gs (w'.at d0) sl) t=(.next (crowd gs1 (w'.at d) sl1),t1)/\RMJ P S Bx ch z ok Q j gs1 child (w'.at d) t1 m qq:=by
  intro M
  induction M using Nat.strongRecOn with
  | _ M ih =>
  intro gs d0 sl t qq hq h0 hL hP hN
  have haw:∀x∈gs,awake x:=by
   intro x hx;obtain⟨i,hi,rfl⟩:=Array.mem_iff_getElem.1 hx;rcases Nat.eq_zero_or_pos i with rfl|hpos
   ·have:gs[0]=a:=(by simpa[Array.getElem?_eq_getElem hi]using h0);rw[this];exact awake_of (.inl hrun)
   ·exact awake_of ((hL.old i _ hpos (Array.getElem?_eq_getElem hi)).status.elim .inl fun x=>.inr (.inr x))
  obtain⟨i,x,d,sl',hi,hx,hstp⟩:=crowd_pick (P:=P) (w:=w'.at d0) (sl:=sl) haw ⟨0,a,h0,hrun⟩;have hd:(w'.at d0).at d=w'.at d:=rfl;rw[hd]at hstp;rcases Nat.eq_zero_or_pos i with rfl|hpos
  ·obtain rfl:x=a:=(by rw[h0]at hi;exact(qz hi).symm);have hrunT:=runT_crowd_spawn (P:=P) (sl:=sl') (i:=0) h0 (by simpa using hsp d);have hlt:0<gs.size:=(qy h0).1;have hnil:MemOp.ofEvents 0 x.frame.fn x.frame.place #[]=#[]:=(by rw[ofEvents_eq];simp);rw[hnil]at hrunT
   let y0:MemOp:={ g:=0,fn:=x.frame.fn,pos:=x.frame.place,act:=.go gs.size }
   let y1:MemOp:={ g:=gs.size,fn:=child.frame.fn,pos:=x.frame.place,act:=.start }
   have hrunT:runT P (crowd gs (w'.at d) sl') 0=(.next (crowd ((gs.setIfInBounds 0 a').push child) (w'.at d) sl'),#[y0,y1]):=hrunT;refine⟨1,(gs.setIfInBounds 0 a').push child,d,sl',t ++ #[y0,y1],gs.size,qq,by simp only[runNT,hstp,hrunT],?_⟩
   have hmute:∀op∈#[y0,y1],op.act≠.mark .disable/\op.act≠.mark .enable:=fun op hop=>by
    simp only[List.mem_toArray,List.mem_cons,List.not_mem_nil,or_false]at hop;rcases hop with rfl|rfl<;>simp[y0,y1]
   have hold:∀{k:Nat} {y:Goroutine},((gs.setIfInBounds 0 a').push child)[k]? = some y->k≠gs.size->k≠0->gs[k]? = some y:=fun {k y} hy hk hk0=>by
    rw[Array.getElem?_push]at hy;rw[if_neg (by simpa using hk),qJ (Ne.symm hk0)]at hy;exact hy
   refine⟨?_,hlt,⟨a',?_,hst.keep fun _ _=>rfl⟩,fun k y hk hkj hy=>?_,fun k hk=>?_,?_,fun k op hop=>?_,fun b hb=>(hbx b hb).1,hch⟩
   ·rw[Array.getElem?_push,if_pos (by simp)]
   ·rw[Array.getElem?_push,if_neg (by simp;omega),Array.getElem?_setIfInBounds_self_of_lt hlt]
   ·have:=hL.old k y hk (hold hy hkj (by omega));rw[Go.ConcN.Deaf_still t k _ hmute];exact this
   ·rw[Go.ConcN.Deaf_still t k _ hmute];exact hL.above k (by simp at hk;omega)
   ·exact PastJ.fork hP hlt (fun l hl=>by
     cases l with
     | cell ad=>exact⟨rfl,(hbx _ hl).2⟩
     | obj r=>exact⟨rfl,(hbx _ hl).2⟩
     | _=>exact hl.elim) hN ⟨rfl,rfl⟩ ⟨rfl,rfl⟩
   ·rw[Array.size_push,Array.size_setIfInBounds];rcases getElem?_append_cases hop with⟨_,h1⟩|⟨_,h1⟩
    ·exact Nat.lt_succ_of_lt (hN k op h1)
    ·simp only[List.mem_toArray,List.mem_cons,List.not_mem_nil,or_false]at h1;rcases h1 with rfl|rfl
     ·exact Nat.succ_pos _
     ·exact Nat.lt_succ_self _
  ·obtain⟨gs2,t2,qq2,h1,h2,h3,h4,h5,h6,h7⟩:=qag (sl':=sl') (d:=d) h0 hrun hL hP hN hi hx hpos;obtain⟨N,gs1,d1,sl1,t1,j,qq1,r1,r2⟩:=ih _ (by omega) gs2 d sl' (t++t2) qq2 ql h4 h5 h6 h7;exact⟨N+1,gs1,d1,sl1,t1,j,qq1,by simp only[runNT,hstp,h1];exact r1,r2⟩
 exact key _ gs w'.drawn sl t qq ql h0 hL hP hN
end
end Go.Sim
end
