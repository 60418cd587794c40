/-
  Lemmas about the program and the machine (SimLone to LoadSix), upon which the last text of this claim rests; no condition.
-/
import Derived.Conc.Beside
import Derived.Conc.CompanyWords
import Derived.Conc.Own4
import Derived.Test.YtnpjncjnmpfgpaaGreatDoorChecked
import Derived.WalkKit
import Derived.WalkSmall
import Derived.ReadAgain
import Derived.ChangeReads
import Derived.ChangeOld
import Derived.ChangeShapes
import Derived.Test.YtnpjncjnmpfgpaaGreatDoorG01
set_option linter.unusedSimpArgs false
set_option linter.unusedVariables false
namespace Go.Sim
open Go Go.Instr
def entryG (P:Program) (f:FuncId) (args:Array Value) (cs:List Frame):Goroutine:={ frame:=Frame.enter P f args .normal,callers:=cs,status:=.running,dying:=none }
def FinP (P':Program) (Post:Value→World→Prop) (q:Goroutine) (w:World):Prop :=
 ∃v fn,P'.funcs[q.frame.fn]? = some fn∧(∀t,(Go.results fn q.frame.tmps).run P' (w.tp t)=.ok v (w.tp t))∧∀t,Post v (w.tp t)
theorem FinP.tp {P':Program} {Post:Value→World→Prop} {q:Goroutine} {w:World} (t:Nat→Question→Nat) (h:FinP P' Post q w):FinP P' Post q (w.tp t):=h
theorem Ya {fr fr':Frame} {cs cs':List Frame} {w w':World} (h:lone fr cs w=lone fr' cs' w'):fr=fr'∧cs=cs'∧w=w':=by
 unfold lone at h
 simp only [Machine.mk.injEq,Array.mk.injEq,List.cons.injEq,Goroutine.mk.injEq,and_true] at h
 obtain ⟨h1,h2,h3⟩:=h
 exact ⟨h2,h3,h1⟩
section
variable {K:Cfg} {P':Program} {c g:Nat→Bool}
theorem Jn {P:Program} {fr fr':Frame} {cs cs':List Frame} {w w':World} {es:Array Event} (h:stepG P true { frame:=fr,callers:=cs,status:=.running,dying:=none } w=.go { frame:=fr',callers:=cs',status:=.running,dying:=none } w' es) :
 step P (lone fr cs w)=.next (lone fr' cs' w'):=step_lone_go (by rw [h];rfl)
theorem Qk {P:Program} {fr:Frame} {cs:List Frame} {w w':World} {o:Outcome} {es:Array Event} (h:stepG P true { frame:=fr,callers:=cs,status:=.running,dying:=none } w=.ended o w' es) :
 step P (lone fr cs w)=.ended o w':=step_lone_ended (by rw [h];rfl)
theorem Jh (Z:Cov K P' P' c g (fun _=>False)) {Post:Value→World→Prop} (hP:∀v w t,Post v w→Post v (w.tp t)) {fr':Frame} {w':World} {v:Value} {fn:Func}
 (h1:fr'.mode=.returning) (h2:fr'.defers=[]) (h3:P'.funcs[fr'.fn]? = some fn) (h4:(Go.results fn fr'.tmps).run P' w'=.ok v w') (h5:Post v w') :
 ∀(n:Nat) (fr:Frame) (cs:List Frame) (w:World),(Xk K P' g { frame:=fr,callers:=cs,status:=.running,dying:=none } w∨(Bad { frame:=fr,callers:=cs,status:=.running,dying:=none }∧ym w)) →
  runN P' n (lone fr cs w)=.next (lone fr' [c0] w')→Reach P' true (FinP P' Post) { frame:=fr,callers:=cs,status:=.running,dying:=none } w:=by
 intro n
 induction n with
 | zero =>
   intro fr cs w hI hr
   simp only [runN,Stepped.next.injEq] at hr
   obtain ⟨rfl,rfl,rfl⟩:=Ya hr
   rcases hI with hI | ⟨hb,_⟩
   ·refine .fin ⟨h1,h2,rfl⟩ ⟨v,fn,h3,fun t=>?_,fun t=>hP _ _ _ h5⟩
    obtain ⟨R,hg,hw,_,_⟩:=hI
    cases hg with
    | mk ha _ =>
      have hw':WR (K.at w.drawn) R w w:=hw.wr _ fun _ _ _=>rfl
      have:=(qc.results (K:=K.at w.drawn) (P':=P') (P:=P') Z.toSame fn ha.tmps w w hw').2.2 (by rw [h4];exact Nat.le_refl _) t (by rw [h4];exact fun i q a b=>absurd (Nat.lt_of_le_of_lt a b) (Nat.lt_irrefl _))
      rw [this,h4]
      rfl
   ·exact absurd ⟨h1,h2,rfl⟩ hb.notLeaves
 | succ n ih =>
   intro fr cs w hI hr
   simp only [runN] at hr
   have ended:∀{o w1 es},stepG P' true { frame:=fr,callers:=cs,status:=.running,dying:=none } w=.ended o w1 es→False:=fun h=>by
    rw [Qk h] at hr;cases hr
   have on:∀{g1:Goroutine} {w1:World} {es},stepG P' true { frame:=fr,callers:=cs,status:=.running,dying:=none } w=.go g1 w1 es→(Xk K P' g g1 w1∨(Bad g1∧ym w1))→Reach P' true (FinP P' Post) g1 w1:=fun h hI1=>by
    rename_i g1 w1 es
    obtain ⟨f1,k1,rfl⟩:∃f1 k1,g1={ frame:=f1,callers:=k1,status:=.running,dying:=none }:=by
     rcases hI1 with ⟨R,hg,_⟩ | ⟨hb,_⟩
     ·cases hg;exact ⟨_,_,rfl⟩
     ·cases hb <;> exact ⟨_,_,rfl⟩
    rw [Jn h] at hr
    exact ih f1 k1 w1 hI1 hr
   rcases hI with hI | ⟨hb,hn⟩
   ·by_cases hl:Leaves { frame:=fr,callers:=cs,status:=.running,dying:=none }
    ·exfalso
     obtain ⟨l1,l2,l3⟩:=hl
     simp only at l1 l2 l3
     subst l3
     obtain ⟨R,hg,_⟩:=hI
     cases hg with
     | mk ha _ =>
       obtain ⟨F,f1,_,_⟩:=ha.std
       have hk:=ha.kind
       obtain ⟨fn0,ts,td,ds,mode,kind,ro⟩:=fr
       simp only at l1 l2 hk f1
       subst l1 l2 hk
       cases e:(Go.results F ts).run P' w with
       | halt x y =>
         have hs:∃o w1 es,stepG P' true { frame:={ fn:=fn0,tmps:=ts,todo:=td,defers:=[],mode:=.returning,kind:=.normal,roundOf:=ro },callers:=[c0],status:=.running,dying:=none } w=.ended o w1 es:=by
          unfold stepG
          dsimp only
          unfold unwind
          simp only [f1,Sem.runT_eq,e]
          cases x <;> exact ⟨_,_,_,rfl⟩
         obtain ⟨_,_,_,hs⟩:=hs
         exact ended hs
       | ok v1 wa =>
         have hs:∃es,stepG P' true { frame:={ fn:=fn0,tmps:=ts,todo:=td,defers:=[],mode:=.returning,kind:=.normal,roundOf:=ro },callers:=[c0],status:=.running,dying:=none } w=.go { frame:=c0.finish v1,callers:=[],status:=.running,dying:=none } wa es:=by
          unfold stepG
          dsimp only
          unfold unwind
          simp only [f1,Sem.runT_eq,e]
          exact ⟨_,rfl⟩
         obtain ⟨_,hs2⟩:=hs
         rw [Jn hs2] at hr
         cases n with
         | zero =>
           simp only [runN,Stepped.next.injEq] at hr
           have:=(Ya hr).2.1
           cases this
         | succ n =>
           simp only [runN] at hr
           obtain ⟨o,w1,es,hb⟩:=Ym (P:=P') (v:=v1) (w:=wa)
           rw [Qk hb] at hr
           cases hr
    ·obtain ⟨R,hg,hw,hn,hR⟩:=id hI
     rcases qfR Z hw hR hg (fun _ _=>rfl) (m:=true) with ⟨g1,w1,es,hs⟩ | ⟨o,w1,es,hs⟩
     ·refine .step hl hs (on hs ?_)
      by_cases hb:Bad g1
      ·have hw':WR (K.at w1.drawn) R w w:=hw.wr _ fun _ _ _=>rfl
       exact .inr ⟨hb,(jV (m':=true) (Z.at _) hn hw' hR (hg.at _) hl hs rfl).1⟩
      ·exact .inl ((hI.turn Z hl w.tape hs).2 hb)
     ·exact (ended hs).elim
   ·rcases bad_only (P:=P') (w:=w) hb with ⟨g1,w1,es,hs⟩ | ⟨o,w1,es,hs⟩
    ·exact .step hb.notLeaves hs (on hs (.inr (hb.step hn hs)))
    ·exact (ended hs).elim
theorem LT.of_calls (Z:Cov K P' P' c g (fun _=>False)) {f:FuncId} {args:Array Value} {w:World} {Post:Value→World→Prop} (hP:∀v w t,Post v w→Post v (w.tp t))
 (hS:Xk K P' g (entryG P' f args [c0]) w) (hC:∀t,Calls P' f args (w.tp t) fun e w'=>∃v,e=.returned v∧Post v w'):LT P' true (FinP P' Post) (entryG P' f args [c0]) w:=by
 refine LT.of_reach Z (fun q w t h=>h.tp t) hS fun t=>?_
 obtain ⟨e,w',fr,⟨v,rfl,hp⟩,⟨n,hn⟩,_,hl⟩:=hC t [c0]
 obtain ⟨l1,l2,_,fn,l3,l4⟩:=hl
 obtain ⟨R,hg,hw,hn0,hR⟩:=hS
 exact Jh Z hP l1 l2 l3 l4 hp n _ _ _ (.inl ⟨R,hg,⟨hw.fn,hw.inj,hw.obj,hw.fz,hw.glob,hw.big,hw.big'⟩,hn0,hR⟩) hn
end
end Go.Sim
section
namespace Go.Sim
open Go Go.Instr Go.Conc
open Go.ConcN (sumTo upd sumTo_upd upd_ne upd_same)
section
variable (P':Program)
inductive Desc:Goroutine→World→Goroutine→World→Prop
 | refl (q:Goroutine) (w:World):Desc q w q w
 | step {q q1 q2:Goroutine} {w w1 w2:World} (t:Nat→Question→Nat) {es:Array Event}:¬ Leaves q→stepG P' true q (w.tp t)=.go q1 w1 es→Desc q1 w1 q2 w2→Desc q w q2 w2
def yB (q:Goroutine) (w:World) (q2:Goroutine) (w2:World):Prop:=∃t q1 w1 es,¬ Leaves q∧stepG P' true q (w.tp t)=.go q1 w1 es∧Desc P' q1 w1 q2 w2
end
theorem Desc.trans {P':Program} {q q1 q2:Goroutine} {w w1 w2:World} (h:Desc P' q w q1 w1) (k:Desc P' q1 w1 q2 w2):Desc P' q w q2 w2:=by
 induction h with
 | refl=>exact k
 | step t hl hs _ ih=>exact .step t hl hs (ih k)
theorem yB.desc {P':Program} {q q1:Goroutine} {w w1:World} (h:yB P' q w q1 w1):Desc P' q w q1 w1:=let ⟨t,_,_,_,hl,hs,k⟩:=h;.step t hl hs k
theorem Desc.below_or {P':Program} {q q1 q2:Goroutine} {w w1 w2:World} (h:yB P' q w q1 w1) (k:Desc P' q1 w1 q2 w2):yB P' q w q2 w2:=let ⟨t,a,b,c,hl,hs,m⟩:=h;⟨t,a,b,c,hl,hs,m.trans k⟩
variable {P':Program} {Fin:Goroutine→World→Prop}
theorem LT.child {q q1:Goroutine} {w w1:World} {t:Nat→Question→Nat} {es:Array Event} (h:LT P' true Fin q w) (hl:¬ Leaves q) (hs:stepG P' true q (w.tp t)=.go q1 w1 es):¬ Bad q1∧LT P' true Fin q1 w1:=by
 cases h with
 | fin h _=>exact absurd h hl
 | step _ nx h1 h2 =>
   obtain ⟨es',e,hb⟩:=h1 t
   rw [hs] at e
   simp only [GStep.go.injEq] at e
   obtain ⟨e1,e2,_⟩:=e
   exact ⟨e1▸hb,e1▸e2▸h2 t⟩
theorem LT.desc {q q2:Goroutine} {w w2:World} (h:LT P' true Fin q w) (d:Desc P' q w q2 w2):LT P' true Fin q2 w2:=by
 induction d with
 | refl=>exact h
 | step t hl hs _ ih=>exact ih (h.child hl hs).2
theorem LT.below1 {q q2:Goroutine} {w w2:World} (h:LT P' true Fin q w) (d:yB P' q w q2 w2):LT P' true Fin q2 w2:=by
 obtain ⟨t,q1,w1,es,hl,hs,d⟩:=d
 exact (h.child hl hs).2.desc d
theorem LT.strong {M:Goroutine→World→Prop} (hM:∀q w,LT P' true Fin q w→(∀q1 w1,yB P' q w q1 w1→M q1 w1)→M q w) {q:Goroutine} {w:World} (h:LT P' true Fin q w):M q w:=by
 have key:∀q2 w2,Desc P' q w q2 w2→M q2 w2:=by
  induction h with
  | @fin q w hl hf =>
    intro q2 w2 d
    cases d with
    | refl=>exact hM _ _ (.fin hl hf) fun q1 w1 ⟨_,_,_,_,h,_⟩=>absurd hl h
    | step _ h _ _=>exact absurd hl h
  | @step q w hl nx h1 h2 ih =>
    have kid:∀{t q1 w1 es},stepG P' true q (w.tp t)=.go q1 w1 es→∀q2 w2,Desc P' q1 w1 q2 w2→M q2 w2:=by
     intro t q1 w1 es hs q2 w2 d
     obtain ⟨es',e,_⟩:=h1 t
     rw [hs] at e
     simp only [GStep.go.injEq] at e
     obtain ⟨e1,e2,_⟩:=e
     subst e1 e2
     exact ih t q2 w2 d
    intro q2 w2 d
    cases d with
    | refl=>exact hM _ _ (.step hl nx h1 h2) fun q1 w1 ⟨t,q',w',es,_,hs,d⟩=>kid hs q1 w1 d
    | step t h hs d=>exact kid hs q2 w2 d
 exact key q w (.refl q w)
def ShunOf (S:Nat→Prop):Loc→Prop
 | .cell a=>S a.block
 | .obj r=>S r
 | _=>False
theorem qdV {K:Cfg} {R:Nat→Nat→Prop} {S:Nat→Prop} {B:Nat} {e:Event} (h:EvR K R e) (hS:∀b c,R b c→¬ S c) (hB:∀b c,R b c→c < B):EvL (ShunOf S) B e:=by
 cases h with
 | cell a wr b hr _=>exact evL_cell a wr (hS _ _ hr) (hB _ _ hr)
 | obj r wr b hr _ =>
   have e1:MemAct.ofEvent ⟨.obj r,wr,false⟩=.access ⟨.obj r,wr,false⟩:=by cases wr <;> rfl
   refine ⟨fun x hx hs=>?_,by simp,by simp,?_⟩
   ·simp only [e1,MemAct.touch?,Option.some.injEq] at hx
    subst hx
    exact absurd hs (hS _ _ hr)
   ·rw [e1];exact hB _ _ hr
 | room=>exact ⟨fun x hx=>by simp [MemAct.ofEvent,MemAct.touch?] at hx,by simp,by simp,trivial⟩
structure Ext0 (K:Cfg) (R R1:Nat→Nat→Prop) (w w' w1 w1':World):Prop where
 le:∀b c,R b c→R1 b c
 new:∀b c,R1 b c→R b c∨(w.heap.size≤b∧w'.heap.size≤c)
 size:w.heap.size≤w1.heap.size
 size':w'.heap.size≤w1'.heap.size
 stay:∀c,c < w'.heap.size→(∀b,R b c→K.Fz b)→w1'.heap[c]? = w'.heap[c]?
 tp':w1'.tape=w'.tape
 os':w1'.os=w'.os
 out':w1'.output=w'.output
 held:∀b,K.Fz b→b < w.heap.size→w1.heap[b]? = w.heap[b]?
theorem Ext0.refl {K:Cfg} {R:Nat→Nat→Prop} (w w':World):Ext0 K R R w w' w w':=⟨fun _ _ h=>h,fun _ _ h=>.inl h,Nat.le_refl _,Nat.le_refl _,fun _ _ _=>rfl,rfl,rfl,rfl,fun _ _ _=>rfl⟩
theorem Ext0.trans {K:Cfg} {R R1 R2:Nat→Nat→Prop} {w w' w1 w1' w2 w2':World} (h:Ext0 K R R1 w w' w1 w1') (k:Ext0 K R1 R2 w1 w1' w2 w2'):Ext0 K R R2 w w' w2 w2':=by
 refine ⟨fun b c x=>k.le _ _ (h.le _ _ x),fun b c x=>?_,Nat.le_trans h.size k.size,Nat.le_trans h.size' k.size',fun c hc hb=>?_,k.tp'.trans h.tp',k.os'.trans h.os',k.out'.trans h.out',fun b hb hlt=>(k.held b hb (Nat.lt_of_lt_of_le hlt h.size)).trans (h.held b hb hlt)⟩
 ·rcases k.new b c x with y | ⟨y1,y2⟩
  ·exact h.new b c y
  ·exact .inr ⟨Nat.le_trans h.size y1,Nat.le_trans h.size' y2⟩
 ·rw [k.stay c (Nat.lt_of_lt_of_le hc h.size') (fun b hr=>?_),h.stay c hc hb]
  rcases h.new b c hr with y | ⟨_,y⟩
  ·exact hb b y
  ·omega
theorem Ext.e0 {K:Cfg} {R R1:Nat→Nat→Prop} {w w' w1 w1':World} {t:Nat→Question→Nat} {d:Nat} (h:Ext K R R1 (w.tp t) (w'.at d) w1 w1'):Ext0 K R R1 w w' w1 w1':=⟨h.le,h.new,h.size,h.size',h.stay,h.tp',h.os',h.out',h.held⟩
structure MS (K Ks:Cfg) (P' P:Program) (g:Nat→Bool) (S:Nat→Prop) (R:Nat→Nat→Prop) (q:Goroutine) (w w':World):Prop where
 w0:W0 K R w w'
 nd:ym w
 self:Xk Ks P' g q w
 glob:∀n,g n=true→R n n
 shun:∀b c,R b c→¬ S c
 low:∀c,S c→c < w'.heap.size
 keep:∀n,K.Fz n→R n n∧w.heap[n]? = K.bs[n]?∧w'.heap[n]? = K.bt[n]?
theorem Jb {K:Cfg} {R R1:Nat→Nat→Prop} {w w' w1 w1':World} (h:∀n,K.Fz n→R n n∧w.heap[n]? = K.bs[n]?∧w'.heap[n]? = K.bt[n]?) (h0:W0 K R w w') (x:Ext0 K R R1 w w' w1 w1'):∀n,K.Fz n→R1 n n∧w1.heap[n]? = K.bs[n]?∧w1'.heap[n]? = K.bt[n]? := fun n hn=>by
 obtain ⟨h1,h2,h3⟩:=h n hn
 obtain ⟨_,_,e1,e2,_⟩:=h0.obj n n h1
 exact ⟨x.le _ _ h1,(x.held n hn (Array.getElem?_eq_some_iff.1 e1).1).trans h2,(x.stay n (Array.getElem?_eq_some_iff.1 e2).1 fun b hb=>(h0.inj b n n hb h1)▸hn).trans h3⟩
structure RM (P:Program) (S:Nat→Prop) (gs:Array Goroutine) (a:Goroutine) (w':World) (t:Trace):Prop where
 here:gs[0]? = some a
 old:∃qq,Leavers P t gs qq
 past:Past (ShunOf S) w'.heap.size t
 nums:∀(i:Nat) (op:MemOp),t[i]? = some op→op.g < gs.size
theorem Qf {t u:Trace} {N N':Nat} (h:∀(i:Nat) (op:MemOp),t[i]? = some op→op.g < N) (hN:N≤N') (hu:∀op∈u,op.g < N'):∀(i:Nat) (op:MemOp),(t ++ u)[i]? = some op→op.g < N':=fun i op hi=>by
 rcases getElem?_append_cases hi with ⟨_,h1⟩ | ⟨_,h1⟩
 ·exact Nat.lt_of_lt_of_le (h i op h1) hN
 ·exact hu op h1
section
variable {P:Program} {K Ks:Cfg} {c g:Nat→Bool} {Sp:FuncId→Prop} {bs:Bs}
theorem yf {P:Program} {m m1:Machine} {t t1:Trace}:∀{N M:Nat} {r:Stepped×Trace},runNT P N m t=(.next m1,t1)→runNT P M m1 t1=r→runNT P (N+M) m t=r:=by
 intro N
 induction N generalizing m t with
 | zero =>
   intro M r h1 h2
   simp only [runNT,Prod.mk.injEq,Stepped.next.injEq] at h1
   obtain ⟨rfl,rfl⟩:=h1
   rw [Nat.zero_add];exact h2
 | succ N ih =>
   intro M r h1 h2
   rw [Nat.succ_add]
   simp only [runNT] at h1 ⊢
   cases e:stepT P m with
   | mk s ops =>
     rw [e] at h1
     cases s with
     | next m2=>exact ih h1 h2
     | ended o w=>simp at h1
def Main (K Ks:Cfg) (P' P:Program) (g:Nat→Bool) (Sp:FuncId→Prop) (Fin:Goroutine→World→Prop) (q:Goroutine) (w:World):Prop :=
 ∀(bs:Bs) (S:Nat→Prop) (R:Nat→Nat→Prop) (gs:Array Goroutine) (a:Goroutine) (w':World) (sl:Option (Nat×Nat)) (t:Trace),(GR K P' P bs R q a∨jd K P' P Sp bs R q a)→MS K Ks P' P g S R q w w'→RM P S gs a w' t →
  ∃(N:Nat) (S1:Nat→Prop) (R1:Nat→Nat→Prop) (q1:Goroutine) (w1:World) (gs1:Array Goroutine) (a1:Goroutine) (w1':World) (sl1:Option (Nat×Nat)) (t1:Trace),
   runNT P N (crowd gs w' sl) t=(.next (crowd gs1 w1' sl1),t1)∧jY bs.src q1∧LT P' true Fin q1 w1∧Desc P' q w q1 w1∧GR K P' P bs R1 q1 a1∧MS K Ks P' P g S1 R1 q1 w1 w1'∧RM P S1 gs1 a1 w1' t1∧Ext0 K R R1 w w' w1 w1'∧∀c,S1 c→S c∨w'.heap.size≤c
def qbI (K Ks:Cfg) (P' P:Program) (g:Nat→Bool) (Sp:FuncId→Prop) (Fin:Goroutine→World→Prop):Prop :=
 ∀(bs:Bs) (S:Nat→Prop) (R:Nat→Nat→Prop) (q:Goroutine) (w:World) (gs:Array Goroutine) (a:Goroutine) (w':World) (sl:Option (Nat×Nat)) (t:Trace),jd K P' P Sp bs R q a→MS K Ks P' P g S R q w w'→RM P S gs a w' t→LT P' true Fin q w →
  (∀q1 w1,yB P' q w q1 w1→Main K Ks P' P g Sp Fin q1 w1) →
  ∃(N:Nat) (S1:Nat→Prop) (R1:Nat→Nat→Prop) (q1:Goroutine) (w1:World) (gs1:Array Goroutine) (a1:Goroutine) (w1':World) (sl1:Option (Nat×Nat)) (t1:Trace),
   runNT P N (crowd gs w' sl) t=(.next (crowd gs1 w1' sl1),t1)∧yB P' q w q1 w1∧GR K P' P bs R1 q1 a1∧MS K Ks P' P g S1 R1 q1 w1 w1'∧RM P S1 gs1 a1 w1' t1∧Ext0 K R R1 w w' w1 w1'∧∀c,S1 c→S c∨w'.heap.size≤c
theorem FsR.longer {bs:Bs} {R:Nat→Nat→Prop} {k k':List Frame} (h:FsR K P' P bs R k k'):2≤k.length:=by
 have hb:1≤bs.src.length:=by
  have:=bs.bad
  generalize bs.src=l at this
  cases this <;> simp
 induction h with
 | one _ _=>simp;omega
 | cons _ _ ih=>simp;omega
theorem GR.not_leaves {bs:Bs} {R:Nat→Nat→Prop} {q a:Goroutine} (h:GR K P' P bs R q a) (hl:¬ jY bs.src q):¬ Leaves q:=by
 rintro ⟨l1,l2,l3⟩
 cases h with
 | mk ha hk =>
   cases hk with
   | base _=>exact hl ⟨l1,l2,rfl⟩
   | over h =>
     have:=h.longer
     simp only at l3
     rw [l3] at this
     simp at this
theorem main_all (Z:Cov K P' P c g Sp) (Zs:Cov Ks P' P' c g (fun _=>False)) (hPh:qbI K Ks P' P g Sp Fin) {q:Goroutine} {w:World} (hT:LT P' true Fin q w):Main K Ks P' P g Sp Fin q w:=by
 refine LT.strong (M:=fun q w=>Main K Ks P' P g Sp Fin q w) ?_ hT
 intro q w hT ih bs S R gs a w' sl t hE hM hR
 have fromThere:∀{N:Nat} {S1:Nat→Prop} {R1:Nat→Nat→Prop} {q1:Goroutine} {w1:World} {gs1:Array Goroutine} {a1:Goroutine} {w1':World} {sl1:Option (Nat×Nat)} {t1:Trace},
  runNT P N (crowd gs w' sl) t=(.next (crowd gs1 w1' sl1),t1)→yB P' q w q1 w1→(GR K P' P bs R1 q1 a1∨jd K P' P Sp bs R1 q1 a1)→MS K Ks P' P g S1 R1 q1 w1 w1'→RM P S1 gs1 a1 w1' t1→Ext0 K R R1 w w' w1 w1'→(∀c,S1 c→S c∨w'.heap.size≤c) →
  ∃(N:Nat) (S1:Nat→Prop) (R1:Nat→Nat→Prop) (q1:Goroutine) (w1:World) (gs1:Array Goroutine) (a1:Goroutine) (w1':World) (sl1:Option (Nat×Nat)) (t1:Trace),
  runNT P N (crowd gs w' sl) t=(.next (crowd gs1 w1' sl1),t1)∧jY bs.src q1∧LT P' true Fin q1 w1∧Desc P' q w q1 w1∧GR K P' P bs R1 q1 a1∧MS K Ks P' P g S1 R1 q1 w1 w1'∧RM P S1 gs1 a1 w1' t1∧Ext0 K R R1 w w' w1 w1'∧∀c,S1 c→S c∨w'.heap.size≤c:=by
  intro N S1 R1 q1 w1 gs1 a1 w1' sl1 t1 hrun hb hE1 hM1 hR1 hX hSS
  obtain ⟨N2,S2,R2,q2,w2,gs2,a2,w2',sl2,t2,h1,h2,h3,h3',h4,h5,h6,h7,h8⟩:=ih q1 w1 hb bs S1 R1 gs1 a1 w1' sl1 t1 hE1 hM1 hR1
  exact ⟨N+N2,S2,R2,q2,w2,gs2,a2,w2',sl2,t2,yf hrun h1,h2,h3,hb.desc.trans h3',h4,h5,h6,hX.trans h7,fun c hc=>(h8 c hc).elim (hSS c) fun h=>.inr (Nat.le_trans hX.size' h)⟩
 rcases hE with hG | hE
 ·by_cases hla:jY bs.src q
  ·exact ⟨0,S,R,q,w,gs,a,w',sl,t,rfl,hla,hT,.refl _ _,hG,hM,hR,.refl _ _,fun _ h=>.inl h⟩
  ·have hl:¬ Leaves q:=hG.not_leaves hla
   obtain ⟨h0,⟨qq,hL⟩,hP,hNm⟩:=hR
   have stepOut:∀(M:Nat) (gs:Array Goroutine) (w':World) (sl:Option (Nat×Nat)) (t:Trace) (qq:Nat→Nat),sumTo gs.size qq≤M→gs[0]? = some a→MS K Ks P' P g S R q w w'→Leavers P t gs qq→Past (ShunOf S) w'.heap.size t→(∀(i:Nat) (op:MemOp),t[i]? = some op→op.g < gs.size) →
    ∃(N:Nat) (R1:Nat→Nat→Prop) (q1:Goroutine) (w1:World) (gs1:Array Goroutine) (a1:Goroutine) (w1':World) (sl1:Option (Nat×Nat)) (t1:Trace),
     runNT P N (crowd gs w' sl) t=(.next (crowd gs1 w1' sl1),t1)∧yB P' q w q1 w1∧(GR K P' P bs R1 q1 a1∨jd K P' P Sp bs R1 q1 a1)∧MS K Ks P' P g S R1 q1 w1 w1'∧RM P S gs1 a1 w1' t1∧Ext0 K R R1 w w' w1 w1':=by
    intro M
    induction M using Nat.strongRecOn with
    | _ M ihM =>
    intro gs w' sl t qq hq h0 hM hL hP hNm
    have hrun:a.status=.running:=by cases hG;rfl
    have haw:∀x∈gs,awake x:=by
     intro x hx
     obtain ⟨i,hi,rfl⟩:=Array.mem_iff_getElem.1 hx
     rcases Nat.eq_zero_or_pos i with rfl | hpos
     ·have:gs[0]=a:=by simpa [Array.getElem?_eq_getElem hi] using h0
      rw [this];exact awake_of (.inl hrun)
     ·exact awake_of ((hL.old i _ hpos (Array.getElem?_eq_getElem hi)).status.elim .inl fun x=>.inr (.inr x))
    obtain ⟨i,x,d,sl',hi,hx,hst⟩:=crowd_pick (P:=P) (w:=w') (sl:=sl) haw ⟨0,a,h0,hrun⟩
    rcases Nat.eq_zero_or_pos i with rfl | hpos
    ·obtain rfl:x=a:=by rw [h0] at hi;exact (Option.some.inj hi).symm
     let τ:Nat→Question→Nat:=fun n z=>w'.tape (d+(n - w.drawn)) z
     obtain ⟨q1,w1,es,hs⟩:∃q1 w1 es,stepG P' true q (w.tp τ)=.go q1 w1 es:=by
      cases hT with
      | fin h _=>exact absurd h hl
      | step _ nx h1 _=>obtain ⟨es,e,_⟩:=h1 τ;exact ⟨_,_,es,e⟩
     obtain ⟨hnb,hT1⟩:=hT.child hl hs
     have hwr:WR (K.at w1.drawn) R (w.tp τ) (w'.at d):=W0.wr (⟨hM.w0.fn,hM.w0.inj,hM.w0.obj,hM.w0.fz,hM.w0.glob,hM.w0.big,hM.w0.big'⟩:W0 K R (w.tp τ) (w'.at d)) _ fun j z _=>by
      show w'.tape (d+j) z=w'.tape (d+(w.drawn+j - w.drawn)) z
      rw [Nat.add_sub_cancel_left]
     obtain ⟨hn1,hst1⟩:=jV (m':=true) (Z.at _) (show ym (w.tp τ) from hM.nd) hwr hM.glob (hG.at _) hla hs rfl
     rcases hst1 with hb | ⟨R1,a1,w1',es',e,hg1,hw1,hx1,hv1⟩
     ·exact absurd hb hnb
     have hself:Xk Ks P' g q1 w1:=(hM.self.turn Zs hl τ hs).2 hnb
     have hX:Ext0 K R R1 w w' w1 w1':=Ext.e0 hx1.un
     have hshun:∀b c,R1 b c→¬ S c:=fun b c hr hc=>by
      rcases hX.new b c hr with h | ⟨_,h⟩
      ·exact hM.shun b c h hc
      ·have:=hM.low c hc
       omega
     have hrunT:=runT_crowd_go (P:=P) (sl:=sl') (i:=0) hi (show stepG P (0 == 0) x (w'.at d)=_ from e)
     have hlt:0 < gs.size:=(Array.getElem?_eq_some_iff.1 h0).1
     have hlow:∀b c,R1 b c→c < w1'.heap.size:=fun b c hr=>by
      obtain ⟨_,o',_,h2,_⟩:=hw1.obj b c hr
      exact (Array.getElem?_eq_some_iff.1 h2).1
     have hone:runNT P (Nat.succ 0) (crowd gs w' sl) t=(.next (crowd ((gs.map (woken P x a1 w1')).setIfInBounds 0 a1) w1' sl'),t ++ MemOp.ofEvents 0 x.frame.fn x.frame.place es'):=by
      simp only [runNT,hst,hrunT]
     refine ⟨Nat.succ 0,R1,q1,w1,_,a1,w1',sl',_,hone,⟨τ,q1,w1,es,hl,hs,.refl _ _⟩,hg1.imp (·.un) (·.un),⟨hw1.w0,hn1,hself,fun n hn=>hX.le _ _ (hM.glob n hn),hshun,fun c hc=>Nat.lt_of_lt_of_le (hM.low c hc) hX.size',Jb hM.keep hM.w0 hX⟩,⟨by simp [hlt],⟨qq,?_⟩,?_,Qf hNm (by simp) fun op hop=>by obtain ⟨e,_,rfl⟩:=Go.Conc.mem_ofEvents hop;simpa using hlt⟩,hX⟩
     ·exact ⟨fun j y hj hy=>by
       have hne:0≠j:=by omega
       rw [Array.getElem?_setIfInBounds_ne hne,Array.getElem?_map] at hy
       obtain ⟨z,hz,rfl⟩:=Option.map_eq_some_iff.1 hy
       have hq:=hL.old j z hj hz
       rw [woken_quitsD hq,Deaf_other t (by omega) _ (fun op hop=>by obtain ⟨e,_,rfl⟩:=Go.Conc.mem_ofEvents hop;rfl)]
       exact hq,fun j hj=>by
       rw [Deaf_other t (g':=0) (by simp at hj;omega) _ (fun op hop=>by obtain ⟨e,_,rfl⟩:=Go.Conc.mem_ofEvents hop;rfl)]
       exact hL.above j (by simpa using hj)⟩
     ·exact (hP.mono hX.size').own fun ev hev=>qdV (hv1 ev hev) hshun hlow
    ·
     have hq1:=hL.old i x hpos hi
     have hi0:(i == 0)=false:=by simp;omega
     have hlt:i < gs.size:=(Array.getElem?_eq_some_iff.1 hi).1
     cases hqi:qq i with
     | zero=>rw [hqi] at hq1;rw [hq1.1] at hx;cases hx
     | succ k =>
       rw [hqi] at hq1
       rcases hq1 with ⟨hf,_⟩ | ⟨_,g',es,hm,hstp,hq'⟩
       ·rw [hf] at hx;cases hx
       have hrunT:=runT_crowd_go (P:=P) (sl:=sl') (i:=i) hi (by rw [hi0];exact hstp (w'.at d))
       have hsz:((gs.map (woken P x g' (w'.at d))).setIfInBounds i g').size=gs.size:=by simp
       have hsum:sumTo gs.size (upd qq i k)+(k+1)=sumTo gs.size qq+k:=by
        have:=sumTo_upd qq k id hlt
        simpa [hqi] using this
       obtain ⟨N,R1,q1,w1,gs1,a1,w1',sl1,t1,r1,r2,r3,r4,r5,r6⟩:=ihM (sumTo gs.size (upd qq i k)) (by omega) ((gs.map (woken P x g' (w'.at d))).setIfInBounds i g') (w'.at d) sl' (t ++ MemOp.ofEvents i x.frame.fn x.frame.place es) (upd qq i k) (by rw [hsz];exact Nat.le_refl _)
        (by
          have hne:i≠0:=by omega
          rw [Array.getElem?_setIfInBounds_ne hne,Array.getElem?_map,h0]
          simp [woken_run hrun])
        ⟨⟨hM.w0.fn,hM.w0.inj,hM.w0.obj,hM.w0.fz,hM.w0.glob,hM.w0.big,hM.w0.big'⟩,hM.nd,hM.self,hM.glob,hM.shun,hM.low,hM.keep⟩
        ⟨fun j y hj hy=>by
          by_cases hji:i=j
          ·subst hji
           rw [Array.getElem?_setIfInBounds_self_of_lt (by simpa using hlt)] at hy
           obtain rfl:=Option.some.inj hy
           rw [upd_same,Deaf_own]
           exact hq'
          ·rw [Array.getElem?_setIfInBounds_ne hji,Array.getElem?_map] at hy
           obtain ⟨z,hz,rfl⟩:=Option.map_eq_some_iff.1 hy
           have hqj:=hL.old j z hj hz
           rw [woken_quitsD hqj,upd_ne qq k (Ne.symm hji),Deaf_other t hji _ (fun op hop=>by obtain ⟨e,_,rfl⟩:=Go.Conc.mem_ofEvents hop;rfl)]
           exact hqj,fun j hj=>by
          rw [Deaf_other t (g':=i) (by simp at hj;omega) _ (fun op hop=>by obtain ⟨e,_,rfl⟩:=Go.Conc.mem_ofEvents hop;rfl)]
          exact hL.above j (by simpa using hj)⟩
        (hP.mute (by omega) hm) (Qf hNm (by simp) fun op hop=>by obtain ⟨e,_,rfl⟩:=Go.Conc.mem_ofEvents hop;simpa using hlt)
       exact ⟨N+1,R1,q1,w1,gs1,a1,w1',sl1,t1,by simp only [runNT,hst,hrunT];exact r1,r2,r3,r4,r5,⟨r6.le,r6.new,r6.size,r6.size',r6.stay,r6.tp',r6.os',r6.out',r6.held⟩⟩
   obtain ⟨N,R1,q1,w1,gs1,a1,w1',sl1,t1,r1,r2,r3,r4,r5,r6⟩:=stepOut _ gs w' sl t qq (Nat.le_refl _) h0 hM hL hP hNm
   exact fromThere r1 r2 r3 r4 r5 r6 fun _ h=>.inl h
 ·obtain ⟨N,S1,R1,q1,w1,gs1,a1,w1',sl1,t1,r1,r2,r3,r4,r5,r6,r7⟩:=hPh bs S R q w gs a w' sl t hE hM hR hT ih
  exact fromThere r1 r2 (.inl r3) r4 r5 r6 r7
theorem qbb {l:List Frame} (Z:Cov K P' P c g Sp) (Zs:Cov Ks P' P' c g (fun _=>False)) (hPh:qbI K Ks P' P g Sp Fin) {q:Goroutine} {w:World} (hT:LT P' true Fin q w) :
 ∀(S:Nat→Prop) (R:Nat→Nat→Prop) (gs:Array Goroutine) (a:Goroutine) (w':World) (sl:Option (Nat×Nat)) (t:Trace),(GR K P' P (.lone l) R q a∨jd K P' P Sp (.lone l) R q a)→MS K Ks P' P g S R q w w'→RM P S gs a w' t →
 ∃(N:Nat) (S1:Nat→Prop) (R1:Nat→Nat→Prop) (q1:Goroutine) (w1:World) (gs1:Array Goroutine) (a1:Goroutine) (w1':World) (sl1:Option (Nat×Nat)) (t1:Trace),
  runNT P N (crowd gs w' sl) t=(.next (crowd gs1 w1' sl1),t1)∧Leaves q1∧(∀x,Fin q1 (w1.tp x))∧GR K P' P (.lone l) R1 q1 a1∧MS K Ks P' P g S1 R1 q1 w1 w1'∧RM P S1 gs1 a1 w1' t1∧Ext0 K R R1 w w' w1 w1'∧∀c,S1 c→S c∨w'.heap.size≤c:=fun S R gs a w' sl t hE hM hR=>by
 obtain ⟨N,S1,R1,q1,w1,gs1,a1,w1',sl1,t1,h1,h2,h3,_,h4,h5,h6,h7,h8⟩:=main_all Z Zs hPh hT (.lone l) S R gs a w' sl t hE hM hR
 refine ⟨N,S1,R1,q1,w1,gs1,a1,w1',sl1,t1,h1,h2,?_,h4,h5,h6,h7,h8⟩
 cases h3 with
 | fin _ hf=>exact hf
 | step h _ _ _=>exact absurd h2 h
end
end Go.Sim
end
namespace Go.Sim
open Go Go.Conc
section
variable {P':Program} {Fin:Goroutine→World→Prop} {w:World}
theorem tp_self (w:World):w.tp w.tape=w:=rfl
variable {b:Frame} {a:Go.Act} {kk:List Item} {cs:List Frame} {ops:Array Oper} {i:Nat} {rest:List Nat} {o:Oper}
theorem zx {k:List Item}:¬ Leaves (G (b.at a k) cs):=by
 rintro ⟨h,_⟩
 cases h
end
section
variable {K:Cfg} {P':Program} {c g:Nat→Bool} {Fin:Goroutine→World→Prop}
theorem JF (Z:Cov K P' P' c g (fun _=>False)) {fr':Frame} {cs':List Frame} {w':World} (hcs:cs'≠[]) :
 ∀(n:Nat) (fr:Frame) (cs:List Frame) (w:World),Xk K P' g { frame:=fr,callers:=cs,status:=.running,dying:=none } w→LT P' true Fin { frame:=fr,callers:=cs,status:=.running,dying:=none } w →
  runN P' n (lone fr cs w)=.next (lone fr' cs' w') →
  Desc P' { frame:=fr,callers:=cs,status:=.running,dying:=none } w { frame:=fr',callers:=cs',status:=.running,dying:=none } w'∧Xk K P' g { frame:=fr',callers:=cs',status:=.running,dying:=none } w':=by
 intro n
 induction n with
 | zero =>
   intro fr cs w hI hT hr
   simp only [runN,Stepped.next.injEq] at hr
   obtain ⟨rfl,rfl,rfl⟩:=Ya hr
   exact ⟨.refl _ _,hI⟩
 | succ n ih =>
   intro fr cs w hI hT hr
   simp only [runN] at hr
   by_cases hl:Leaves { frame:=fr,callers:=cs,status:=.running,dying:=none }
   ·exfalso
    obtain ⟨l1,l2,l3⟩:=hl
    simp only at l1 l2 l3
    subst l3
    obtain ⟨R,hg,_⟩:=hI
    cases hg with
    | mk ha _ =>
      obtain ⟨F,f1,_,_⟩:=ha.std
      have hk:=ha.kind
      obtain ⟨fn0,ts,td,ds,mode,kind,ro⟩:=fr
      simp only at l1 l2 hk f1
      subst l1 l2 hk
      cases e:(Go.results F ts).run P' w with
      | halt x y =>
        have hs:∃o w1 es,stepG P' true { frame:={ fn:=fn0,tmps:=ts,todo:=td,defers:=[],mode:=.returning,kind:=.normal,roundOf:=ro },callers:=[c0],status:=.running,dying:=none } w=.ended o w1 es:=by
         unfold stepG
         dsimp only
         unfold unwind
         simp only [f1,Sem.runT_eq,e]
         cases x <;> exact ⟨_,_,_,rfl⟩
        obtain ⟨_,_,_,hs⟩:=hs
        rw [Qk hs] at hr;cases hr
      | ok v1 wa =>
        have hs:∃es,stepG P' true { frame:={ fn:=fn0,tmps:=ts,todo:=td,defers:=[],mode:=.returning,kind:=.normal,roundOf:=ro },callers:=[c0],status:=.running,dying:=none } w=.go { frame:=c0.finish v1,callers:=[],status:=.running,dying:=none } wa es:=by
         unfold stepG
         dsimp only
         unfold unwind
         simp only [f1,Sem.runT_eq,e]
         exact ⟨_,rfl⟩
        obtain ⟨_,hs2⟩:=hs
        rw [Jn hs2] at hr
        cases n with
        | zero =>
          simp only [runN,Stepped.next.injEq] at hr
          exact hcs (Ya hr).2.1.symm
        | succ n =>
          simp only [runN] at hr
          obtain ⟨o,w1,es,hb⟩:=Ym (P:=P') (v:=v1) (w:=wa)
          rw [Qk hb] at hr
          cases hr
   ·obtain ⟨g1,w1,es,e,hb⟩:∃g1 w1 es,stepG P' true { frame:=fr,callers:=cs,status:=.running,dying:=none } (w.tp w.tape)=.go g1 w1 es∧¬ Bad g1:=by
     cases hT with
     | fin h _=>exact absurd h hl
     | step _ nx h1 _=>obtain ⟨es,e,hb⟩:=h1 w.tape;exact ⟨_,_,es,e,hb⟩
    have hS:=(hI.turn Z hl w.tape e).2 hb
    have hT1:=(hT.child hl e).2
    obtain ⟨f1,k1,rfl⟩:∃f1 k1,g1={ frame:=f1,callers:=k1,status:=.running,dying:=none }:=by
     obtain ⟨R,hg,_⟩:=id hS
     cases hg;exact ⟨_,_,rfl⟩
    have e0:stepG P' true { frame:=fr,callers:=cs,status:=.running,dying:=none } w=.go { frame:=f1,callers:=k1,status:=.running,dying:=none } w1 es:=e
    rw [Jn e0] at hr
    obtain ⟨a,b⟩:=ih f1 k1 w1 hS hT1 hr
    exact ⟨.step w.tape hl e a,b⟩
theorem Desc.below1 {q q1:Goroutine} {w w1:World} (h:Desc P' q w q1 w1) (hne:q≠q1):yB P' q w q1 w1:=by
 cases h with
 | refl=>exact absurd rfl hne
 | step t hl hs d=>exact ⟨t,_,_,_,hl,hs,d⟩
theorem qdS (Z:Cov K P' P' c g (fun _=>False)) {f:FuncId} {args:Array Value} {b:Frame} {cs:List Frame} {w:World} {Post:Value→World→Prop} (hcs:cs≠[])
 (hS:Xk K P' g { frame:=Frame.enter P' f args .normal,callers:=b :: cs,status:=.running,dying:=none } w)
 (hT:LT P' true Fin { frame:=Frame.enter P' f args .normal,callers:=b :: cs,status:=.running,dying:=none } w)
 (hC:Calls P' f args w fun e w'=>∃v,e=.returned v∧Post v w') :
 ∃v w',Post v w'∧yB P' { frame:=Frame.enter P' f args .normal,callers:=b :: cs,status:=.running,dying:=none } w { frame:=b.finish v,callers:=cs,status:=.running,dying:=none } w' ∧
  Xk K P' g { frame:=b.finish v,callers:=cs,status:=.running,dying:=none } w':=by
 obtain ⟨e,w',fr,⟨v,rfl,hp⟩,⟨n,hn⟩,_,hl⟩:=hC (b :: cs)
 have hr:runN P' (n+1) (lone (Frame.enter P' f args .normal) (b :: cs) w)=.next (lone (b.finish v) cs w'):=by
  rw [runN_add,hn]
  simp only [runN,step_leave_returned hl]
 obtain ⟨a,s⟩:=JF Z hcs _ _ _ _ hS hT hr
 refine ⟨v,w',hp,a.below1 fun e=>?_,s⟩
 simp only [Goroutine.mk.injEq] at e
 have:=congrArg List.length e.2.1
 simp at this
end
structure Dn (K:Cfg) (P':Program) (g:Nat→Bool) (Fin:Goroutine→World→Prop) (q0:Goroutine) (w0:World) (q:Goroutine) (w:World):Prop where
 lt:LT P' true Fin q w
 self:Xk K P' g q w
 desc:Desc P' q0 w0 q w
section
variable {K:Cfg} {P':Program} {c g:Nat→Bool} {Fin:Goroutine→World→Prop} {q0 q q1:Goroutine} {w0 w w1:World}
theorem Dn.step (Z:Cov K P' P' c g (fun _=>False)) {es:Array Event} (h:Dn K P' g Fin q0 w0 q w) (hl:¬ Leaves q) (hs:stepG P' true q w=.go q1 w1 es):Dn K P' g Fin q0 w0 q1 w1:=by
 have hs':stepG P' true q (w.tp w.tape)=.go q1 w1 es:=hs
 obtain ⟨hb,hT⟩:=h.lt.child hl hs'
 exact ⟨hT,(h.self.turn Z hl w.tape hs').2 hb,h.desc.trans (.step w.tape hl hs' (.refl _ _))⟩
variable {b:Frame} {a:Go.Act} {kk kk':List Item} {cs:List Frame} {ops:Array Oper} {i:Nat} {rest:List Nat} {o:Oper} {x:Code}
theorem Dn.bad (h:Dn K P' g Fin q0 w0 (G (b.at a kk) cs) w):BadK cs:=by
 obtain ⟨R,hg,_⟩:=h.self
 cases hg with
 | mk _ hk=>exact hk.bad
theorem Dn.ctl (Z:Cov K P' P' c g (fun _=>False)) (h:Dn K P' g Fin q0 w0 (G (b.at a kk) cs) w) {a':Go.Act} (hs:∀w,stepG P' true (G (b.at a kk) cs) w=.go (G (b.at a' kk') cs) w #[]):Dn K P' g Fin q0 w0 (G (b.at a' kk') cs) w:=h.step Z zx (hs w)
theorem Dn.seq (Z:Cov K P' P' c g (fun _=>False)) {x y:Code} (h:Dn K P' g Fin q0 w0 (G (b.at a (.code (.seq x y) :: kk)) cs) w):Dn K P' g Fin q0 w0 (G (b.at a (.code x :: .code y :: kk)) cs) w:=h.ctl Z fun _=>stepG_seq
theorem Dn.skip (Z:Cov K P' P' c g (fun _=>False)) (h:Dn K P' g Fin q0 w0 (G (b.at a (.code .skip :: kk)) cs) w):Dn K P' g Fin q0 w0 (G (b.at a kk) cs) w:=h.ctl Z fun _=>stepG_skip
theorem Dn.block (Z:Cov K P' P' c g (fun _=>False)) {id:Nat} (h:Dn K P' g Fin q0 w0 (G (b.at a (.code (.block id (.loop x)) :: kk)) cs) w):Dn K P' g Fin q0 w0 (G (b.at a (.code x :: .inLoop x :: .inBlock id :: kk)) cs) w :=
 (h.ctl Z fun _=>stepG_block).ctl Z fun _=>stepG_loop
theorem Dn.again (Z:Cov K P' P' c g (fun _=>False)) (h:Dn K P' g Fin q0 w0 (G (b.at a (.inLoop x :: kk)) cs) w):Dn K P' g Fin q0 w0 (G (b.at a (.code x :: .inLoop x :: kk)) cs) w:=h.ctl Z fun _=>stepG_inLoop
theorem Dn.region (Z:Cov K P' P' c g (fun _=>False)) {id:Nat} (h:Dn K P' g Fin q0 w0 (G (b.at a (.code (.region id ops false) :: kk)) cs) w):Dn K P' g Fin q0 w0 (G (b.at a (.inRegion ops (List.range ops.size) :: kk)) cs) w:=h.ctl Z fun _=>stepG_region
theorem Dn.rend (Z:Cov K P' P' c g (fun _=>False)) (h:Dn K P' g Fin q0 w0 (G (b.at a (.inRegion ops [] :: kk)) cs) w):Dn K P' g Fin q0 w0 (G (b.at a kk) cs) w:=h.ctl Z fun _=>stepG_region_end
theorem Dn.cond (Z:Cov K P' P' c g (fun _=>False)) {t:Operand} {x y:Code} {v:Bool} (h:Dn K P' g Fin q0 w0 (G (b.at a (.code (.cond t x y) :: kk)) cs) w) (hv:a.eval t=.bool v):Dn K P' g Fin q0 w0 (G (b.at a (.code (if v then x else y) :: kk)) cs) w:=h.ctl Z fun _=>stepG_cond hv
theorem Dn.exit (Z:Cov K P' P' c g (fun _=>False)) {id:Nat} (h:Dn K P' g Fin q0 w0 (G (b.at a (.code (.exit id) :: kk)) cs) w) (he:exitTo id kk=some kk'):Dn K P' g Fin q0 w0 (G (b.at a kk') cs) w:=h.ctl Z fun _=>stepG_exit he
theorem Dn.value (Z:Cov K P' P' c g (fun _=>False)) {v:Value} (h:Dn K P' g Fin q0 w0 (G (b.at a (.inRegion ops (i :: rest) :: kk)) cs) w) (ho:ops[i]? = some o) (hw:o.guard=none) (hk:b.kind≠.early)
 (hr:(execOp a.eval o).run P' w=.ok (.value v) w1):Dn K P' g Fin q0 w0 (G (b.at (a.put o.dst v) (.inRegion ops rest :: kk)) cs) w1 :=
 h.step Z zx (stepG_value ho (by unfold Region.wanted;rw [hw]) hk hr)
theorem Dn.quiet (Z:Cov K P' P' c g (fun _=>False)) (h:Dn K P' g Fin q0 w0 (G (b.at a (.inRegion ops (i :: rest) :: kk)) cs) w) (ho:ops[i]? = some o) (hw:o.guard=none) (hk:b.kind≠.early)
 (hr:(execOp a.eval o).run P' w=.ok .skip w1):Dn K P' g Fin q0 w0 (G (b.at (a.put o.dst undef) (.inRegion ops rest :: kk)) cs) w1 :=
 h.step Z zx (stepG_none ho (by unfold Region.wanted;rw [hw]) hk hr)
theorem Dn.ok2 (Z:Cov K P' P' c g (fun _=>False)) (h:Dn K P' g Fin q0 w0 (G (b.at a (.inRegion ops (i :: rest) :: kk)) cs) w) (ho:ops[i]? = some o) (hw:o.guard=none) (hd:a.defers=[]):∃n w',(execOp a.eval o).run P' w=.ok n w':=by
 obtain ⟨R,hg,h0,hn,hR⟩:=h.self
 cases hr:(execOp a.eval o).run P' w with
 | ok n w'=>exact ⟨n,w',rfl⟩
 | halt x w' =>
   exfalso
   have ht:jm x=true:=by
    cases hg with
    | mk ha hk =>
      have hev:(b.at a (.inRegion ops (i :: rest) :: kk)).eval=a.eval:=Frame.eval_at' b a _
      have hop:opB P' c g o.op=true:=by
       have:=ha.todo
       simp only [Frame.at] at this
       cases this with
       | cons h1 h2 =>
         cases h1 with
         | inRegion id ops t hD =>
           have:=((Z.hD _ _).1 hD).2
           simp only [zH,Array.all_eq_true'] at this
           exact this o (Array.mem_of_getElem? ho)
      have hS:=qc.execOp (K:=K.at w'.drawn) (P':=P') (P:=P') (R:=R) (Z.at w'.drawn).toProgs Z.hc o hop (fun hR' x hxo=>ha.eval Z.hc hR hR' x hxo) (fun v=>rfl)
      have hwr:WR (K.at w'.drawn) R w w:=W0.wr h0 _ fun _ _ _=>rfl
      rw [hev] at hS
      exact ((hS w w hwr).2.1 x w' hr (Nat.le_refl _)).2
   cases h.lt with
   | fin hl _=>exact zx hl
   | step hl nx h1 _ =>
     obtain ⟨es,e,hnb⟩:=h1 w.tape
     rw [tp_self,stepG_oper ho (by unfold Region.wanted;rw [hw])] at e
     simp only [stepG.apply,Sem.runT_eq,if_true,hr] at e
     cases x with
     | panic v =>
       simp only [GStep.after,GStep.go.injEq] at e
       refine hnb ?_
       rw [← e.1]
       obtain ⟨ch',e'⟩:=raise_mode (b.at a (.inRegion ops (i :: rest) :: kk)) [{ v,recovered:=false }]
       exact .up ch' e' (by rw [xE];intro d hx;change d∈a.defers at hx;rw [hd] at hx;cases hx) h.bad
     | stuck s=>simp [GStep.after] at e
     | unsupported q =>
       cases q <;> first
        | (simp [GStep.after] at e;done)
        | (simp [jm] at ht;done)
     | _=>simp [jm] at ht
theorem Dn.call (Z:Cov K P' P' c g (fun _=>False)) {f:FuncId} {fn:Func} {args:Array Operand} {ats:Array TypeId} {Post:Value→World→Prop} (h:Dn K P' g Fin q0 w0 (G (b.at a (.inRegion ops (i :: rest) :: kk)) cs) w) (ho:ops[i]? = some o) (hw:o.guard=none) (hk:b.kind≠.early)
 (hop:o.op=.call { callee:=.value (.func f),args,argTypes:=ats }) (hf:P'.funcs[f]? = some fn) (hname:(fn.name == "runtime.NumGoroutine")=false) (hb:fn.body.isNone=false) (hcs:cs≠[])
 (hC:Calls P' f (args.map a.eval) w fun e w'=>∃v,e=.returned v∧Post v w'):∃v w',Post v w'∧Dn K P' g Fin q0 w0 (G (b.at (a.put o.dst v) (.inRegion ops rest :: kk)) cs) w':=by
 have h1:=h.step Z zx (stepG_enter ho (by unfold Region.wanted;rw [hw]) hk (run_call_body hop hf hname hb))
 obtain ⟨v,w',hp,hB,hS⟩:=qdS Z hcs h1.self h1.lt hC
 have e:(b.at a (.inRegion ops (i :: rest) :: kk)).finish v=b.at (a.put o.dst v) (.inRegion ops rest :: kk):=by rw [Frame.finish_at,ho];rfl
 rw [e] at hB hS
 obtain ⟨t,q1,w1,es,hl,hs,d⟩:=id hB
 exact ⟨v,w',hp,h1.lt.below1 hB,hS,h1.desc.trans (.step t hl hs d)⟩
end
end Go.Sim
namespace Go.Proofs.Tryz
open Go
def op2 (d:Option Tmp) (o:Op) (t:TypeId:=0):Oper:={ dst:=d,op:=o,type:=t,pos:= "",after:=#[],guard:=none }
def Jf:Operand:=.const (.int .i64 1)
def qfX:Operand:=.const (.int .i64 0)
def str21:Value:=.string ⟨Array.replicate 21 0⟩
def str101:Value:=.string ⟨Array.replicate 101 0⟩
def sO0:Array Oper:=#[op2 (some 2) (.assign (.const (.slice none 0 0))) 33,op2 (some 3) (.assign (.const (.int .i64 0))) 29]
def sSh (k:Tmp):Array Oper:=#[op2 (some 10) (.field 26 (.tmp k) 1) 3,op2 (some 11) (.binOp .mul 3 (.tmp 10) Jf 3) 3,op2 (some 12) (.field 26 (.tmp k) 2) 3,op2 (some 13) (.binOp .mul 3 (.tmp 12) Jf 3) 3,
 op2 (some 14) (.field 26 (.tmp k) 0) 23,op2 (some 15) (.field 23 (.tmp 14) 0) 3,op2 (some 16) (.binOp .mul 3 (.tmp 15) Jf 3) 3,op2 (some 17) (.field 23 (.tmp 14) 1) 3,op2 (some 18) (.binOp .mul 3 (.tmp 17) Jf 3) 3,
 op2 (some 5) (.field 26 (.tmp k) 3) 24,op2 (some 6) (.call { callee:=.builtin .len,args:=#[.tmp 5],argTypes:=#[24] }) 3,op2 (some 4) (.alloc 26),op2 none (.store 26 (.tmp 4) (.tmp k))]
def str1:Value:=.string ⟨#[0]⟩
def str0:Value:=.string ⟨#[]⟩
def sOc:Array Oper:=#[op2 (some 1) (.move (.tmp 6)) 3,op2 (some 40) (.call { callee:=.value (.func 42),args:=#[.tmp 0,.const (.bool true)],argTypes:=#[26,4] }),op2 (some 41) (.extract (.tmp 40) 0) 67,op2 (some 42) (.extract (.tmp 40) 1) 29,
 op2 (some 44) (.binOp .mul 3 (.tmp 42) Jf 3) 3,op2 (some 43) (.binOp .neq 29 (.tmp 42) (.const (.int .i64 0)) 29) 4]
def sOl:Array Oper:=#[op2 (some 19) (.slice 24 (.tmp 5) none (some (.tmp 6)) none) 24,op2 (some 9) (.index 9 (.const str21) (.tmp 6)),op2 (some 9) (.index 9 (.const str21) (.tmp 1)),op2 (some 44) (.binOp .sub 3 (.tmp 1) (.tmp 6) 3) 3,
 op2 (some 9) (.index 9 (.const str1) (.tmp 44)),op2 (some 45) (.indexAddr 24 (.tmp 5) qfX),op2 (some 7) (.move (.const (.int .i64 0))) 3]
def sO2:Array Oper:=#[op2 (some 8) (.binOp .lss 3 (.tmp 7) (.tmp 6) 3) 4]
def sO3:Array Oper:=#[op2 (some 20) (.indexAddr 24 (.tmp 5) (.tmp 7)),op2 (some 21) (.load 56 (.tmp 20)) 56,op2 (some 22) (.field 56 (.tmp 21) 0) 9,
 op2 (some 38) (.call { callee:=.builtin .len,args:=#[.tmp 22],argTypes:=#[9] }) 3,op2 (some 39) (.index 9 (.const str101) (.tmp 38)),
 op2 (some 24) (.field 56 (.tmp 21) 1) 3,op2 (some 25) (.binOp .mul 3 (.tmp 24) Jf 3) 3,op2 (some 26) (.field 56 (.tmp 21) 2) 54,op2 (some 27) (.call { callee:=.builtin .len,args:=#[.tmp 26],argTypes:=#[54] }) 3,
 op2 (some 32) (.slice 54 (.tmp 26) none (some (.tmp 27)) none) 54,op2 (some 33) (.index 9 (.const str21) (.tmp 27)),op2 (some 45) (.indexAddr 54 (.tmp 26) qfX),op2 (some 28) (.move (.const (.int .i64 0))) 3]
def sO4:Array Oper:=#[op2 (some 29) (.binOp .lss 3 (.tmp 28) (.tmp 27) 3) 4]
def sO5:Array Oper:=#[op2 (some 30) (.indexAddr 54 (.tmp 26) (.tmp 28)),op2 (some 31) (.load 23 (.tmp 30)) 23,op2 (some 34) (.field 23 (.tmp 31) 0) 3,op2 (some 35) (.binOp .mul 3 (.tmp 34) Jf 3) 3,
 op2 (some 36) (.field 23 (.tmp 31) 1) 3,op2 (some 37) (.binOp .mul 3 (.tmp 36) Jf 3) 3,op2 (some 44) (.binOp .add 3 (.tmp 28) Jf 3) 3,op2 (some 28) (.move (.tmp 44)) 3]
def sO6:Array Oper:=#[op2 (some 43) (.binOp .add 3 (.tmp 7) Jf 3) 3,op2 (some 7) (.move (.tmp 43)) 3]
def sO7:Array Oper:=#[op2 (some 40) (.call { callee:=.value (.func 42),args:=#[.tmp 41,.const (.bool true)],argTypes:=#[26,4] }),op2 (some 41) (.extract (.tmp 40) 0) 67,op2 (some 42) (.extract (.tmp 40) 1) 29,
 op2 (some 43) (.binOp .neq 29 (.tmp 42) (.const (.int .i64 0)) 29) 4]
def sO13:Array Oper:=#[op2 (some 9) (.index 9 (.const str0) qfX)]
def sO8:Array Oper:=#[op2 (some 3) (.assign (.tmp 42)) 29]
def sO9:Array Oper:=#[op2 (some 44) (.makeSlice 33 (.tmp 6) (.tmp 6)) 33,op2 (some 2) (.assign (.tmp 44)) 33,op2 (some 7) (.move (.const (.int .i64 0))) 3]
def sO11:Array Oper:=#[op2 (some 45) (.call { callee:=.value (.func 62),args:=#[.tmp 41,.tmp 7],argTypes:=#[67,3] }) 3,op2 (some 46) (.indexAddr 33 (.tmp 2) (.tmp 7)),op2 none (.store 3 (.tmp 46) (.tmp 45)),
 op2 (some 47) (.binOp .add 3 (.tmp 7) Jf 3) 3,op2 (some 7) (.move (.tmp 47)) 3]
def sO12:Array Oper:=#[op2 (some 3) (.assign (.const (.int .i64 0))) 29]
def sL1:Code:=.seq (.region 4 sO4 false) (.seq (.cond (.tmp 29) .skip (.exit 1)) (.region 5 sO5 false))
def sL0:Code:=.seq (.region 2 sO2 false) (.seq (.cond (.tmp 8) .skip (.exit 0)) (.seq (.region 3 sO3 false) (.seq (.block 1 (.loop sL1)) (.region 6 sO6 false))))
def sL2:Code:=.seq (.region 10 sO2 false) (.seq (.cond (.tmp 8) .skip (.exit 2)) (.region 11 sO11 false))
def sB3:Code:=.seq (.region 9 sO9 false) (.seq (.block 2 (.loop sL2)) (.seq (.region 12 sO12 false) .ret))
def sB2:Code:=.seq (.region 7 sO7 false) (.seq (.cond (.tmp 43) (.region 13 sO13 false) .skip) sB3)
def sB1:Code:=.seq (.region 16 sOl false) (.seq (.block 0 (.loop sL0)) sB2)
def sB0:Code:=.seq (.region 15 (sSh 41) false) (.seq (.cond (.tmp 43) (.seq (.region 8 sO8 false) .ret) .skip) sB1)
def jS:Code:=.seq (.region 0 sO0 false) (.seq (.region 1 (sSh 0) false) (.seq (.region 14 sOc false) sB0))
noncomputable def YT:Func:={ Tryz.f15 with ntmps:=48,body:=some jS,tmpNames:=#[] }
noncomputable def qf:Program:={ Tryz.prog with funcs:=Tryz.prog.funcs.setIfInBounds 15 YT }
end Go.Proofs.Tryz
namespace Go.Sim
open Go
section
variable {Q P:Program} (h:Q.toTables=P.toTables) (t:TypeId) (w:World)
include h
theorem qcn:Q.underlying t=P.underlying t:=by
 obtain ⟨T',f'⟩:=Q;obtain ⟨T,f⟩:=P;simp only at h;subst h;rfl
theorem JR:Q.info? t=P.info? t:=by
 obtain ⟨T',f'⟩:=Q;obtain ⟨T,f⟩:=P;simp only at h;subst h;rfl
theorem ZF:(Go.underlying t).run Q w=(Go.underlying t).run P w:=by
 unfold Go.underlying
 simp only [Sem.run_bind,run_program,Result.andThen_ok,qcn h]
 cases P.underlying t with
 | none=>rfl
 | some d=>rfl
theorem jk:(Go.typeInfo t).run Q w=(Go.typeInfo t).run P w:=by
 unfold Go.typeInfo
 simp only [Sem.run_bind,run_program,Result.andThen_ok,JR h]
 cases P.info? t with
 | none=>rfl
 | some d=>rfl
theorem Xi:(Go.isAgg t).run Q w=(Go.isAgg t).run P w:=by
 unfold Go.isAgg
 rw [Sem.run_bind,Sem.run_bind,ZF h]
 generalize (Go.underlying t).run P w=r
 cases r with
 | halt x y=>exact Eq.trans (Result.andThen_halt ..) (Result.andThen_halt ..).symm
 | ok d w1 =>
   rw [Result.andThen_ok,Result.andThen_ok]
   split
   ·rw [Sem.run_pure,Sem.run_pure]
   ·rw [Sem.run_pure,Sem.run_pure]
   ·rw [Sem.run_pure,Sem.run_pure]
theorem YM:(Go.sizeOf t).run Q w=(Go.sizeOf t).run P w:=by
 unfold Go.sizeOf
 rw [Sem.run_bind,Sem.run_bind,jk h]
 generalize (Go.typeInfo t).run P w=r
 cases r with
 | halt x y=>exact Eq.trans (Result.andThen_halt ..) (Result.andThen_halt ..).symm
 | ok d w1=>rw [Result.andThen_ok,Result.andThen_ok,Sem.run_pure,Sem.run_pure]
theorem QS:(Go.zeroValue t).run Q w=(Go.zeroValue t).run P w:=by
 unfold Go.zeroValue
 rw [Sem.run_bind,Sem.run_bind,jk h]
 generalize (Go.typeInfo t).run P w=r
 cases r with
 | halt x y=>exact Eq.trans (Result.andThen_halt ..) (Result.andThen_halt ..).symm
 | ok d w1 =>
   rw [Result.andThen_ok,Result.andThen_ok]
   split
   ·rw [Sem.run_pure,Sem.run_pure]
   ·rfl
theorem qcE:Q.depth=P.depth:=by
 obtain ⟨T',f'⟩:=Q;obtain ⟨T,f⟩:=P;simp only at h;subst h;rfl
theorem JC:Q.cellsOf t=P.cellsOf t:=by
 obtain ⟨T',f'⟩:=Q;obtain ⟨T,f⟩:=P;simp only at h;subst h;rfl
theorem JM:Q.globals=P.globals:=by
 obtain ⟨T',f'⟩:=Q;obtain ⟨T,f⟩:=P;simp only at h;subst h;rfl
end
theorem qh {P:Program} {f:FuncId} {fn:Func} (hf:P.funcs[f]? = some fn) (hname:(fn.name == "runtime.NumGoroutine")=false) (hb:fn.body.isSome=true) (args:Array Value) (w:World) :
 (callFunc f args).run P w=.ok (.enter f args) w:=by
 have h1:fn.name≠ "runtime.NumGoroutine":=by simpa using hname
 obtain ⟨c,hc⟩:=Option.isSome_iff_exists.1 hb
 simp [callFunc,hf,h1,hc]
end Go.Sim
namespace Go.Load
open Go Go.RowKit
theorem lt_of_cell {W:World} {p:Addr} {v:Value} (hc:W.cell? p=some v):p.block < W.heap.size:=by
 rcases Nat.lt_or_ge p.block W.heap.size with h | h
 ·exact h
 ·unfold World.cell? at hc
  rw [Array.getElem?_eq_none h] at hc
  cases hc
theorem qb {W w1:World} (p:Addr) (h:Below W.heap.size W w1) {v:Value} (hc:W.cell? p=some v):w1.cell? p=some v:=(h.cell (lt_of_cell hc)).trans hc
theorem qg {W w1:World} (p:Addr) (h:Below W.heap.size W w1) {v:Value} (hc:W.cell? p=some v) (hf:W.frozen? p=false):w1.frozen? p=false:=(h.frozen (lt_of_cell hc)).trans hf
theorem Below.call {B:Nat} {w W w1:World} (h:Below B w W) (k:Below W.heap.size W w1) (hB:B≤w.heap.size):Below B w w1:=h.trans (k.mono (Nat.le_trans hB h.size))
theorem bcl {w w1 w2:World} (h:Below w.heap.size w w1) (hB:Below w1.heap.size w1 w2):Below w.heap.size w w2:=Below.call h hB (Nat.le_refl _)
theorem qy {w:World} {p q:Addr} {v:Value} (h:(w.cell? q).isSome=true):((w.setCell p v).cell? q).isSome=true:=by
 by_cases e:p=q
 ·subst e;rw [World.cell?_setCell_same' _ _ _ h];rfl
 ·rw [World.cell?_setCell_other _ _ _ _ e];exact h
theorem ze {w:World} {p:Addr} {v:Value} (h:(w.cell? p).isSome=true):(w.setCell p v).cell? p=some v:=World.cell?_setCell_same' _ _ _ h
theorem qd {w:World} {p q:Addr} {u v:Value} (e:p≠q) (h:w.cell? q=some u):(w.setCell p v).cell? q=some u:=(World.cell?_setCell_other _ _ _ _ e).trans h
theorem qcy {W:World} {p:Addr} {v:Value} (h:W.cell? p=some v):W.drew.drew.cell? p=some v:=h
theorem ZP {w1:World} {b:Nat} {u0 u1:Value} (v0 v1:Value) (c0:w1.cell? ⟨b,0,none⟩=some u0) (c1:w1.cell? ⟨b,1,none⟩=some u1) :
 ((w1.setCell ⟨b,0,none⟩ v0).setCell ⟨b,1,none⟩ v1).cell? ⟨b,0,none⟩=some v0∧((w1.setCell ⟨b,0,none⟩ v0).setCell ⟨b,1,none⟩ v1).cell? ⟨b,1,none⟩=some v1:=by
 have h1:(w1.setCell ⟨b,0,none⟩ v0).cell? ⟨b,1,none⟩=some u1:=(World.cell?_setCell_other _ _ _ _ (by simp)).trans c1
 exact ⟨(World.cell?_setCell_other _ _ _ _ (by simp)).trans (World.cell?_setCell_same' _ _ _ (by rw [c0];rfl)),World.cell?_setCell_same' _ _ _ (by rw [h1];rfl)⟩
theorem ZC {P:Program} {fn:Func} {ts:Array Value} {p:Tmp} {ty:TypeId} {w:World} {b:Nat} {v0 v1:Value} (h:fn.results=#[.cell p ty]) (hA:∀w,(isAgg ty).run P w=.ok true w) (hS:∀w,(Go.sizeOf ty).run P w=.ok 2 w)
 (hp:ts.getD p undef=.pointer (some ⟨b,0,none⟩)) (k0:w.cell? ⟨b,0,none⟩=some v0) (k1:w.cell? ⟨b,1,none⟩=some v1):(results fn ts).run P w=.ok (.agg #[v0,v1]) w:=by
 have hl:(loadVar ty ⟨b,0,none⟩).run P w=.ok (.agg #[v0,v1]) w:=by
  unfold loadVar
  simp only [Sem.run_bind,hA,hS,Result.andThen_ok,if_true,loadCells,loadCellsFrom,run_load,Addr.add,k0,k1,Sem.run_pure,Option.isSome_none,Bool.false_eq_true,if_false,Nat.zero_add,Nat.add_zero,Nat.one_ne_zero,k1,Result.andThen_ok,Sem.run_pure]
  rfl
 unfold results
 rw [h]
 simp only [List.mapM_toArray,List.mapM_cons,List.mapM_nil,hp,asAddr,bind_assoc,pure_bind,map_eq_pure_bind,Sem.run_bind,hl,Result.andThen_ok,Sem.run_pure]
 rfl
theorem yU {P:Program} {fn:Func} {R:Ending→World→Prop} {ts:Array Value} {p:Tmp} {ty:TypeId} {w1:World} {b:Nat} {u0 u1 v0 v1:Value} (h:fn.results=#[.cell p ty]) (hA:∀w,(isAgg ty).run P w=.ok true w) (hS:∀w,(Go.sizeOf ty).run P w=.ok 2 w)
 (hp:ts.getD p undef=.pointer (some ⟨b,0,none⟩)) (c0:w1.cell? ⟨b,0,none⟩=some u0) (c1:w1.cell? ⟨b,1,none⟩=some u1) (hR:R (.returned (.agg #[v0,v1])) ((w1.setCell ⟨b,0,none⟩ v0).setCell ⟨b,1,none⟩ v1)) :
 bodyPost P fn R .ret ⟨ts,[]⟩ ((w1.setCell ⟨b,0,none⟩ v0).setCell ⟨b,1,none⟩ v1) :=
 bodyPost_ret (ZC h hA hS hp (ZP v0 v1 c0 c1).1 (ZP v0 v1 c0 c1).2) rfl hR
def atD (w:World) (a:Addr):Value:=(w.cell? a).getD undef
theorem qO {w:World} {a:Addr} (h:(w.cell? a).isSome=true):w.cell? a=some (atD w a):=by
 obtain ⟨x,hx⟩:=Option.isSome_iff_exists.1 h
 simp [atD,hx]
theorem qA {w:World} {a:Addr} {v:Value} (h:w.cell? a=some v):(w.cell? a).isSome=true:=by rw [h];rfl
theorem qX {w:World} {p q:Addr} {v:Value} (h:((w.setCell p v).cell? q).isSome=true):(w.cell? q).isSome=true:=by
 by_cases e:p=q
 ·subst e
  simp only [World.setCell,World.cell?,Array.getElem?_modify,if_true] at h ⊢
  cases hh:w.heap[p.block]? with
  | none=>simp [hh] at h
  | some o =>
    rw [hh] at h
    cases o <;> first | exact h | skip
    rename_i c e f
    simp only [Option.map_some] at h
    dsimp only at h ⊢
    by_cases hs:p.spot.isSome=true
    ·rw [if_pos hs] at h ⊢;exact h
    ·rw [if_neg hs] at h ⊢
     rw [if_neg hs] at h
     rcases Nat.lt_or_ge p.off c.size with hl | hl
     ·simp [hl]
     ·rw [Array.getElem?_eq_none (by simpa using hl)] at h;cases h
 ·rwa [World.cell?_setCell_other _ _ _ _ e] at h
def Jv (w:World) (ab rb:Nat) (u v:Value) (W:World):Prop :=
 W.cell? ⟨ab,0,none⟩=some u∧W.cell? ⟨ab,1,none⟩=some v∧W.frozen? ⟨rb,0,none⟩=false∧W.frozen? ⟨rb,1,none⟩=false∧W.cell? ⟨rb,0,none⟩=some (atD W ⟨rb,0,none⟩)∧W.cell? ⟨rb,1,none⟩=some (atD W ⟨rb,1,none⟩)∧Below w.heap.size w W
theorem held22 {w W w1:World} {ab rb:Nat} {u v:Value} (h:Jv w ab rb u v W) (hB:Below W.heap.size W w1):Jv w ab rb u v w1:=by
 obtain ⟨a,b,c,d,e,f,g⟩:=h
 exact ⟨qb _ hB a,qb _ hB b,qg _ hB e c,qg _ hB f d,qO (qA (qb _ hB e)),qO (qA (qb _ hB f)),bcl g hB⟩
theorem Xq {w W:World} {ab rb:Nat} {u v:Value} (x y:Value) (h:Jv w ab rb u v W) (hne:ab≠rb) (hr:w.heap.size≤rb):Jv w ab rb u v ((W.setCell ⟨rb,0,none⟩ x).setCell ⟨rb,1,none⟩ y):=by
 obtain ⟨a,b,c,d,e,f,g⟩:=h
 have n0:∀i j,(⟨rb,i,none⟩:Addr)≠⟨ab,j,none⟩:=fun i j h=>hne (congrArg Addr.block h).symm
 exact ⟨qd (n0 _ _) (qd (n0 _ _) a),qd (n0 _ _) (qd (n0 _ _) b),by simpa using c,by simpa using d,qO (qy (qy (qA e))),qO (qy (qy (qA f))),(g.setCell hr _).setCell hr _⟩
theorem Xp {w W:World} {ab rb:Nat} {u v x y:Value} (h:Jv w ab rb u v ((W.setCell ⟨rb,0,none⟩ x).setCell ⟨rb,1,none⟩ y)) :
 W.cell? ⟨rb,0,none⟩=some (atD W ⟨rb,0,none⟩)∧W.cell? ⟨rb,1,none⟩=some (atD W ⟨rb,1,none⟩)∧Below w.heap.size w ((W.setCell ⟨rb,0,none⟩ x).setCell ⟨rb,1,none⟩ y):=by
 obtain ⟨a,b,c,d,e,f,g⟩:=h
 exact ⟨qO (qX (qX (qA e))),qO (qX (qX (qA f))),g⟩
theorem qx {W w1:World} (hb:Below W.heap.size W w1):(∀b o,b < W.heap.size→w1.cell? ⟨b,o,none⟩=W.cell? ⟨b,o,none⟩)∧(∀b o,b < W.heap.size→w1.frozen? ⟨b,o,none⟩=W.frozen? ⟨b,o,none⟩) :=
 ⟨fun b o h=>hb.cell (p:=⟨b,o,none⟩) h,fun b o h=>hb.frozen (p:=⟨b,o,none⟩) h⟩
theorem qi {W:World} {o:Obj} {p:Addr} {v:Value} (h:W.cell? p=some v):(W.alloc o).cell? p=some v:=qb _ ((Below.refl _ W).alloc (Nat.le_refl _) _) h
theorem qo {W:World} {o:Obj} {p:Addr} {v:Value} (h:W.cell? p=some v) (hf:W.frozen? p=false):(W.alloc o).frozen? p=false:=qg _ ((Below.refl _ W).alloc (Nat.le_refl _) _) h hf
theorem xu {P:Program} {ty:TypeId} {w:World} {b o:Nat} {v0 v1:Value} (hA:∀w,(isAgg ty).run P w=.ok true w) (hS:∀w,(Go.sizeOf ty).run P w=.ok 2 w) (k0:w.cell? ⟨b,o,none⟩=some v0) (k1:w.cell? ⟨b,o+1,none⟩=some v1) :
 (loadVar ty ⟨b,o,none⟩).run P w=.ok (.agg #[v0,v1]) w:=by
 unfold loadVar
 simp only [Sem.run_bind,hA,hS,Result.andThen_ok,if_true,loadCells,loadCellsFrom,run_load,Addr.add,k0,k1,Sem.run_pure,Option.isSome_none,Bool.false_eq_true,if_false,Nat.zero_add,Nat.add_zero,Nat.one_ne_zero]
 rfl
theorem load_5 {P:Program} {ty:TypeId} {w:World} {b o:Nat} {v0 v1 v2 v3 v4:Value} (hA:∀w,(isAgg ty).run P w=.ok true w) (hS:∀w,(Go.sizeOf ty).run P w=.ok 5 w) (k0:w.cell? ⟨b,o,none⟩=some v0) (k1:w.cell? ⟨b,o+1,none⟩=some v1)
 (k2:w.cell? ⟨b,o+2,none⟩=some v2) (k3:w.cell? ⟨b,o+3,none⟩=some v3) (k4:w.cell? ⟨b,o+4,none⟩=some v4) :
 (loadVar ty ⟨b,o,none⟩).run P w=.ok (.agg #[v0,v1,v2,v3,v4]) w:=by
 unfold loadVar
 simp only [Sem.run_bind,hA,hS,Result.andThen_ok,if_true,loadCells,loadCellsFrom,run_load,Addr.add,k0,k1,k2,k3,k4,Sem.run_pure,Option.isSome_none,Bool.false_eq_true,if_false,Nat.zero_add,Nat.add_zero,Nat.one_ne_zero,Nat.reduceAdd,show ¬ (2:Nat)=0 by decide,show ¬ (3:Nat)=0 by decide,show ¬ (4:Nat)=0 by decide]
 rfl
theorem QQ {P:Program} {fn:Func} {ts:Array Value} {p:Tmp} {ty:TypeId} {w:World} {a:Addr} {v:Value} (h:fn.results=#[.cell p ty]) (hp:ts.getD p undef=.pointer (some a)) (hl:(loadVar ty a).run P w=.ok v w):(results fn ts).run P w=.ok v w:=by
 unfold results
 rw [h]
 simp only [List.mapM_toArray,List.mapM_cons,List.mapM_nil,hp,asAddr,bind_assoc,pure_bind,map_eq_pure_bind,Sem.run_bind,hl,Result.andThen_ok,Sem.run_pure]
 rfl
theorem qZ {P:Program} {fn:Func} {ts:Array Value} {p q:Tmp} {ty:TypeId} {w:World} {a:Addr} {v u:Value} (h:fn.results=#[.cell p ty,.tmp q]) (hp:ts.getD p undef=.pointer (some a)) (hq:ts.getD q undef=u) (hl:(loadVar ty a).run P w=.ok v w):(results fn ts).run P w=.ok (.tuple #[v,u]) w:=by
 unfold results
 rw [h]
 simp only [List.mapM_toArray,List.mapM_cons,List.mapM_nil,hp,hq,asAddr,bind_assoc,pure_bind,map_eq_pure_bind,Sem.run_bind,hl,Result.andThen_ok,Sem.run_pure]
 rfl
theorem qdg {P:Program} {fn:Func} {ts:Array Value} {p q:Tmp} {ty:TypeId} {w:World} {a:Addr} {v u:Value} (h:fn.results=#[.tmp q,.cell p ty]) (hp:ts.getD p undef=.pointer (some a)) (hq:ts.getD q undef=u) (hl:(loadVar ty a).run P w=.ok v w):(results fn ts).run P w=.ok (.tuple #[u,v]) w:=by
 unfold results
 rw [h]
 simp only [List.mapM_toArray,List.mapM_cons,List.mapM_nil,hp,hq,asAddr,bind_assoc,pure_bind,map_eq_pure_bind,Sem.run_bind,hl,Result.andThen_ok,Sem.run_pure]
 rfl
theorem qbn {P:Program} {fn:Func} {ts:Array Value} {p q r:Tmp} {ty:TypeId} {w:World} {a:Addr} {v u x:Value} (h:fn.results=#[.tmp q,.cell p ty,.tmp r]) (hp:ts.getD p undef=.pointer (some a)) (hq:ts.getD q undef=u) (hr:ts.getD r undef=x) (hl:(loadVar ty a).run P w=.ok v w):(results fn ts).run P w=.ok (.tuple #[u,v,x]) w:=by
 unfold results
 rw [h]
 simp only [List.mapM_toArray,List.mapM_cons,List.mapM_nil,hp,hq,hr,asAddr,bind_assoc,pure_bind,map_eq_pure_bind,Sem.run_bind,hl,Result.andThen_ok,Sem.run_pure]
 rfl
theorem Ji {P:Program} {fn:Func} {R:Ending→World→Prop} {ts:Array Value} {p q:Tmp} {ty:TypeId} {w1:World} {b:Nat} {u0 u1 v0 v1 a:Value} (h:fn.results=#[.cell p ty,.tmp q]) (hA:∀w,(isAgg ty).run P w=.ok true w) (hS:∀w,(Go.sizeOf ty).run P w=.ok 2 w)
 (hp:ts.getD p undef=.pointer (some ⟨b,0,none⟩)) (hq:ts.getD q undef=a) (c0:w1.cell? ⟨b,0,none⟩=some u0) (c1:w1.cell? ⟨b,1,none⟩=some u1) (hR:R (.returned (.tuple #[.agg #[v0,v1],a])) ((w1.setCell ⟨b,0,none⟩ v0).setCell ⟨b,1,none⟩ v1)) :
 bodyPost P fn R .ret ⟨ts,[]⟩ ((w1.setCell ⟨b,0,none⟩ v0).setCell ⟨b,1,none⟩ v1) :=
 bodyPost_ret (qZ h hp hq (xu hA hS (ZP v0 v1 c0 c1).1 (ZP v0 v1 c0 c1).2)) rfl hR
def qL (w:World) (b o:Nat) (l:List (Int×Int)):Prop:=∀(i:Nat) (x:Int×Int),l[i]? = some x→w.cell? ⟨b,o+i * 2,none⟩=some (.int .i64 x.1)∧w.cell? ⟨b,o+i * 2+1,none⟩=some (.int .i64 x.2)
theorem qL.keep {w w1:World} {b o:Nat} {l:List (Int×Int)} (h:qL w b o l) (hB:Below w.heap.size w w1):qL w1 b o l:=fun i x hx=>⟨qb _ hB (h i x hx).1,qb _ hB (h i x hx).2⟩
def qbv (l:List (Int×Int)):Int:=(l.map (·.1)).sum
def qbw (l:List (Int×Int)):Int:=(l.map (·.2)).sum
theorem qfG {l:List (Int×Int)} {k:Nat} {x:Int×Int} (h:l[k]? = some x):qbv (l.take (k+1))=qbv (l.take k)+x.1:=by
 obtain ⟨hk,rfl⟩:=List.getElem?_eq_some_iff.1 h
 unfold qbv
 rw [List.take_succ_eq_append_getElem hk,List.map_append,List.sum_append]
 simp only [List.map_cons,List.map_nil,List.sum_cons,List.sum_nil,Int.add_zero]
theorem qfI {l:List (Int×Int)} {k:Nat} {x:Int×Int} (h:l[k]? = some x):qbw (l.take (k+1))=qbw (l.take k)+x.2:=by
 obtain ⟨hk,rfl⟩:=List.getElem?_eq_some_iff.1 h
 unfold qbw
 rw [List.take_succ_eq_append_getElem hk,List.map_append,List.sum_append]
 simp only [List.map_cons,List.map_nil,List.sum_cons,List.sum_nil,Int.add_zero]
theorem qfF {l:List (Int×Int)} {m:Int} (h:∀x∈l,0≤x.1∧x.1≤m):0≤qbv l∧qbv l≤m * l.length:=by
 induction l with
 | nil=>simp [qbv]
 | cons x l ih =>
   obtain ⟨a,b⟩:=ih fun y hy=>h y (List.mem_cons_of_mem _ hy)
   obtain ⟨c,d⟩:=h x List.mem_cons_self
   simp only [qbv,List.map_cons,List.sum_cons,List.length_cons] at *
   have:m * ((l.length+1:Nat):Int)=m * l.length+m:=by rw [Int.natCast_succ,Int.mul_add,Int.mul_one]
   omega
theorem qfH {l:List (Int×Int)} {m:Int} (h:∀x∈l,0≤x.2∧x.2≤m):0≤qbw l∧qbw l≤m * l.length:=by
 induction l with
 | nil=>simp [qbw]
 | cons x l ih =>
   obtain ⟨a,b⟩:=ih fun y hy=>h y (List.mem_cons_of_mem _ hy)
   obtain ⟨c,d⟩:=h x List.mem_cons_self
   simp only [qbw,List.map_cons,List.sum_cons,List.length_cons] at *
   have:m * ((l.length+1:Nat):Int)=m * l.length+m:=by rw [Int.natCast_succ,Int.mul_add,Int.mul_one]
   omega
structure Grp where
 name:ByteArray
 trunks:Int
 traffic:List (Int×Int)
 ta:Option Addr
 tc:Nat
def gv (g:Grp):Value:=.agg #[.string g.name,.int .i64 g.trunks,.slice g.ta g.traffic.length g.tc]
def yR (w:World) (g:Grp):Prop:=1≤g.traffic.length→∃b o,g.ta=some ⟨b,o,none⟩∧qL w b o g.traffic
def zG (w:World) (b o:Nat) (l:List Grp):Prop:=∀(i:Nat) (g:Grp),l[i]? = some g →
 w.cell? ⟨b,o+i * 3,none⟩=some (.string g.name)∧w.cell? ⟨b,o+i * 3+1,none⟩=some (.int .i64 g.trunks)∧w.cell? ⟨b,o+i * 3+2,none⟩=some (.slice g.ta g.traffic.length g.tc)
structure Bk where
 lim:Int×Int
 growth:Int
 hours:Int
 gs:List Grp
 ga:Option Addr
 gc:Nat
def bv (B:Bk):Value:=.agg #[.int .i64 B.lim.1,.int .i64 B.lim.2,.int .i64 B.growth,.int .i64 B.hours,.slice B.ga B.gs.length B.gc]
def qcs (w:World) (B:Bk):Prop:=1≤B.gs.length→∃b o,B.ga=some ⟨b,o,none⟩∧zG w b o B.gs
structure BookAt (w:World) (B:Bk):Prop where
 row:qcs w B
 traf:∀g∈B.gs,yR w g
 small:B.gs.length≤20∧∀g∈B.gs,g.traffic.length≤20∧g.name.size≤100
 cap:B.gs.length≤B.gc
theorem yR.keep {w w1:World} {g:Grp} (h:yR w g) (hB:Below w.heap.size w w1):yR w1 g:=fun hl=>let ⟨b,o,e,hp⟩:=h hl;⟨b,o,e,hp.keep hB⟩
theorem zG.keep {w w1:World} {b o:Nat} {l:List Grp} (h:zG w b o l) (hB:Below w.heap.size w w1):zG w1 b o l:=fun i g hg=>let ⟨a,b,c⟩:=h i g hg;⟨qb _ hB a,qb _ hB b,qb _ hB c⟩
theorem qcs.keep {w w1:World} {B:Bk} (h:qcs w B) (hB:Below w.heap.size w w1):qcs w1 B:=fun hl=>let ⟨b,o,e,hp⟩:=h hl;⟨b,o,e,hp.keep hB⟩
theorem BookAt.keep {w w1:World} {B:Bk} (h:BookAt w B) (hB:Below w.heap.size w w1):BookAt w1 B:=⟨h.row.keep hB,fun g hg=>(h.traf g hg).keep hB,h.small,h.cap⟩
theorem zG.take {w:World} {b o:Nat} {l:List Grp} (h:zG w b o l) (n:Nat):zG w b o (l.take n):=fun i g hg=>h i g (by rw [List.getElem?_take] at hg;split at hg;exact hg;cases hg)
end Go.Load
section
namespace Go.Load
def btw (n lo hi:Int):Bool:=decide (lo≤n) && decide (n≤hi)
theorem btw_t {n lo hi:Int} (h:lo≤n∧n≤hi):btw n lo hi=true:=by simp [btw,h.1,h.2]
theorem btw_f {n lo hi:Int} (h:¬ (lo≤n∧n≤hi)):btw n lo hi=false:=by
 unfold btw
 by_cases h1:lo≤n
 ·have:¬ n≤hi:=fun h2=>h ⟨h1,h2⟩
  simp [h1,this]
 ·simp [h1]
def lowT (a b:Int):Int:=a / (Int.gcd a b:Int)
def lowB (a b:Int):Int:=b / (Int.gcd a b:Int)
theorem gcd_step (x y:Int) (hx:0≤x) (hy:0 < y):Int.gcd y (x % y)=Int.gcd x y:=by
 obtain ⟨m,rfl⟩:=Int.eq_ofNat_of_zero_le hx
 obtain ⟨n,rfl⟩:=Int.eq_ofNat_of_zero_le (Int.le_of_lt hy)
 rw [show ((m:Int) % (n:Int))=((m % n:Nat):Int) from rfl]
 show Nat.gcd n (m % n)=Nat.gcd m n
 rw [Nat.gcd_comm n,← Nat.gcd_rec,Nat.gcd_comm]
theorem gcd_zero (x:Int) (hx:0≤x):(Int.gcd x 0:Int)=x:=by
 rw [Int.gcd_zero_right];omega
def low (a b:Int):Int×Int:=(lowT a b,lowB a b)
def qQ (a:Int×Int):Nat→Int×Int
 | 0=>(1,1)
 | n+1=>let x:=low (a.1 * (qQ a n).1) (a.2 * (qQ a n).2);low x.1 ((n+1) * x.2+x.1)
def above (x y:Int×Int):Bool:=decide (y.1 * x.2 < x.1 * y.2)
theorem ZU {a b c d:Int} (hb:0 < b) (hd:0 < d) (h:a / b=c / d):(c * b < a * d)↔((c % d) * b < (a % b) * d):=by
 have h1:=Int.mul_ediv_add_emod a b
 have h2:=Int.mul_ediv_add_emod c d
 have e1:a * d=b * d * (a / b)+(a % b) * d:=by
  conv=>lhs;rw [← h1]
  rw [Int.add_mul];congr 1;rw [Int.mul_right_comm]
 have e2:c * b=b * d * (a / b)+(c % d) * b:=by
  conv=>lhs;rw [← h2]
  rw [Int.add_mul,h];congr 1;rw [Int.mul_right_comm,Int.mul_comm d b]
 rw [e1,e2]
 omega
theorem qbJ {a b c d:Int} (hb:0 < b) (hd:0 < d) (h:a / b≠c / d):(c * b < a * d)↔(c / d < a / b):=by
 have h1:=Int.mul_ediv_add_emod a b
 have h2:=Int.mul_ediv_add_emod c d
 have r1:=Int.emod_nonneg a (Int.ne_of_gt hb)
 have r2:=Int.emod_lt_of_pos a hb
 have r3:=Int.emod_nonneg c (Int.ne_of_gt hd)
 have r4:=Int.emod_lt_of_pos c hd
 constructor
 ·intro hlt
  refine Int.not_le.1 fun hle=>?_
  have hle':a / b+1≤c / d:=by omega
  have k1:a < b * (c / d):=by
   have:b * (a / b+1)≤b * (c / d):=Int.mul_le_mul_of_nonneg_left hle' (Int.le_of_lt hb)
   rw [Int.mul_add] at this;omega
  have k2:d * (c / d)≤c:=by omega
  have k3:a * d < b * (c / d) * d:=Int.mul_lt_mul_of_pos_right k1 hd
  have k4:b * (c / d) * d≤b * c:=by
   rw [Int.mul_assoc]
   exact Int.mul_le_mul_of_nonneg_left (by rw [Int.mul_comm];exact k2) (Int.le_of_lt hb)
  rw [Int.mul_comm c b] at hlt
  omega
 ·intro hlt
  have hle':c / d+1≤a / b:=by omega
  have k1:c < d * (a / b):=by
   have:d * (c / d+1)≤d * (a / b):=Int.mul_le_mul_of_nonneg_left hle' (Int.le_of_lt hd)
   rw [Int.mul_add] at this;omega
  have k2:b * (a / b)≤a:=by omega
  have k3:c * b < d * (a / b) * b:=Int.mul_lt_mul_of_pos_right k1 hb
  have k4:d * (a / b) * b≤d * a:=by
   rw [Int.mul_assoc]
   exact Int.mul_le_mul_of_nonneg_left (by rw [Int.mul_comm];exact k2) (Int.le_of_lt hd)
  rw [Int.mul_comm a d]
  omega
theorem XU {a b:Int} (hb:0 < b):0 < (Int.gcd a b:Int):=by
 have:Int.gcd a b≠0:=fun h=>by
  have:=(Int.gcd_eq_zero_iff.1 h).2
  omega
 omega
theorem gcd_le {a b:Int} (hb:0 < b):(Int.gcd a b:Int)≤b:=Int.le_of_dvd hb (Int.gcd_dvd_right ..)
theorem xw {a b:Int} (ha:0≤a) (hb:0 < b):0≤(low a b).1∧(low a b).1≤a∧1≤(low a b).2∧(low a b).2≤b∧(a≤b→(low a b).1≤(low a b).2):=by
 have hg:=XU (a:=a) hb
 refine ⟨Int.ediv_nonneg ha (Int.le_of_lt hg),Int.ediv_le_self _ ha,?_,Int.ediv_le_self _ (Int.le_of_lt hb),fun h=>Int.ediv_le_ediv hg h⟩
 show 1≤b / _
 rw [Int.le_ediv_iff_mul_le hg]
 have:=gcd_le (a:=a) hb
 omega
theorem xW {x:Int×Int} (h1:0≤x.1) (h2:x.1≤12) (h3:1≤x.2) (h4:x.2≤4):∀k:Nat,k≤7→0≤(qQ x k).1∧(qQ x k).1≤(qQ x k).2∧1≤(qQ x k).2∧(qQ x k).2≤40 ^ k
 | 0,_=>by simp [qQ]
 | k+1,hk=>by
   obtain ⟨i1,i2,i3,i4⟩:=xW h1 h2 h3 h4 k (by omega)
   simp only [qQ]
   revert i1 i2 i3 i4
   generalize qQ x k=l
   intro i1 i2 i3 i4
   have m1:0≤x.1 * l.1:=Int.mul_nonneg h1 i1
   have m2:x.1 * l.1≤12 * l.2:=Int.le_trans (Int.mul_le_mul_of_nonneg_right h2 i1) (by omega)
   have m3:x.2 * l.2≤4 * l.2:=Int.mul_le_mul_of_nonneg_right h4 (by omega)
   have m4:0 < x.2 * l.2:=Int.mul_pos (by omega) (by omega)
   obtain ⟨t1,t2,t3,t4,_⟩:=xw m1 m4
   revert t1 t2 t3 t4
   generalize low (x.1 * l.1) (x.2 * l.2)=t
   intro t1 t2 t3 t4
   have n1:((k:Int)+1) * t.2≤7 * t.2:=Int.mul_le_mul_of_nonneg_right (by omega) (by omega)
   have n2:0 < ((k:Int)+1) * t.2:=Int.mul_pos (by omega) (by omega)
   obtain ⟨u1,u2,u3,u4,u5⟩:=xw (a:=t.1) (b:=((k:Int)+1) * t.2+t.1) t1 (by omega)
   refine ⟨u1,u5 (by omega),u3,?_⟩
   have e:(40:Int) ^ (k+1)=40 ^ k * 40:=Int.pow_succ ..
   rw [e]
   omega
end Go.Load
end
namespace Go.Load
open Go Go.RowKit
def set5 (w:World) (b:Nat) (v0 v1 v2 v3 v4:Value):World:=((((w.setCell ⟨b,0,none⟩ v0).setCell ⟨b,1,none⟩ v1).setCell ⟨b,2,none⟩ v2).setCell ⟨b,3,none⟩ v3).setCell ⟨b,4,none⟩ v4
theorem qM {w:World} {b:Nat} {v0 v1 v2 v3 v4:Value} {p:Addr} (h:p.block≠b):(set5 w b v0 v1 v2 v3 v4).cell? p=w.cell? p:=by
 have n:∀i,(⟨b,i,none⟩:Addr)≠p:=fun i e=>h (congrArg Addr.block e).symm
 unfold set5
 rw [World.cell?_setCell_other _ _ _ _ (n _),World.cell?_setCell_other _ _ _ _ (n _),World.cell?_setCell_other _ _ _ _ (n _),World.cell?_setCell_other _ _ _ _ (n _),World.cell?_setCell_other _ _ _ _ (n _)]
theorem put5 {w:World} {b:Nat} {u0 u1 u2 u3 u4:Value} (v0 v1 v2 v3 v4:Value) (c0:w.cell? ⟨b,0,none⟩=some u0) (c1:w.cell? ⟨b,1,none⟩=some u1) (c2:w.cell? ⟨b,2,none⟩=some u2) (c3:w.cell? ⟨b,3,none⟩=some u3) (c4:w.cell? ⟨b,4,none⟩=some u4) :
 (set5 w b v0 v1 v2 v3 v4).cell? ⟨b,0,none⟩=some v0∧(set5 w b v0 v1 v2 v3 v4).cell? ⟨b,1,none⟩=some v1∧(set5 w b v0 v1 v2 v3 v4).cell? ⟨b,2,none⟩=some v2∧(set5 w b v0 v1 v2 v3 v4).cell? ⟨b,3,none⟩=some v3∧(set5 w b v0 v1 v2 v3 v4).cell? ⟨b,4,none⟩=some v4:=by
 unfold set5
 refine ⟨?_,?_,?_,?_,?_⟩
 ·exact qd (by simp) (qd (by simp) (qd (by simp) (qd (by simp) (ze (qA c0)))))
 ·exact qd (by simp) (qd (by simp) (qd (by simp) (ze (qy (qA c1)))))
 ·exact qd (by simp) (qd (by simp) (ze (qy (qy (qA c2)))))
 ·exact qd (by simp) (ze (qy (qy (qy (qA c3)))))
 ·exact ze (qy (qy (qy (qy (qA c4)))))
theorem Below.set5 {B:Nat} {w w1:World} {b:Nat} {v0 v1 v2 v3 v4:Value} (h:Below B w w1) (hb:B≤b):Below B w (Load.set5 w1 b v0 v1 v2 v3 v4):=((((h.setCell hb _).setCell hb _).setCell hb _).setCell hb _).setCell hb _
theorem YJ {P:Program} {fn:Func} {R:Ending→World→Prop} {ts:Array Value} {p q:Tmp} {ty:TypeId} {w1:World} {b:Nat} {u0 u1 u2 u3 u4 v0 v1 v2 v3 v4 a:Value} (h:fn.results=#[.cell p ty,.tmp q]) (hA:∀w,(isAgg ty).run P w=.ok true w) (hS:∀w,(Go.sizeOf ty).run P w=.ok 5 w)
 (hp:ts.getD p undef=.pointer (some ⟨b,0,none⟩)) (hq:ts.getD q undef=a) (c0:w1.cell? ⟨b,0,none⟩=some u0) (c1:w1.cell? ⟨b,1,none⟩=some u1) (c2:w1.cell? ⟨b,2,none⟩=some u2) (c3:w1.cell? ⟨b,3,none⟩=some u3) (c4:w1.cell? ⟨b,4,none⟩=some u4)
 (hR:R (.returned (.tuple #[.agg #[v0,v1,v2,v3,v4],a])) (set5 w1 b v0 v1 v2 v3 v4)) :
 bodyPost P fn R .ret ⟨ts,[]⟩ (((((w1.setCell ⟨b,0,none⟩ v0).setCell ⟨b,1,none⟩ v1).setCell ⟨b,2,none⟩ v2).setCell ⟨b,3,none⟩ v3).setCell ⟨b,4,none⟩ v4) :=
 have hp5:=put5 v0 v1 v2 v3 v4 c0 c1 c2 c3 c4
 bodyPost_ret (qZ h hp hq (load_5 (o:=0) hA hS hp5.1 hp5.2.1 hp5.2.2.1 hp5.2.2.2.1 hp5.2.2.2.2)) rfl hR
theorem qfs {P:Program} {fn:Func} {R:Ending→World→Prop} {ts:Array Value} {p:Tmp} {ty:TypeId} {w1:World} {b:Nat} {u0 u1 u2 u3 u4 v0 v1 v2 v3 v4:Value} (h:fn.results=#[.cell p ty]) (hA:∀w,(isAgg ty).run P w=.ok true w) (hS:∀w,(Go.sizeOf ty).run P w=.ok 5 w)
 (hp:ts.getD p undef=.pointer (some ⟨b,0,none⟩)) (c0:w1.cell? ⟨b,0,none⟩=some u0) (c1:w1.cell? ⟨b,1,none⟩=some u1) (c2:w1.cell? ⟨b,2,none⟩=some u2) (c3:w1.cell? ⟨b,3,none⟩=some u3) (c4:w1.cell? ⟨b,4,none⟩=some u4)
 (hR:R (.returned (.agg #[v0,v1,v2,v3,v4])) (set5 w1 b v0 v1 v2 v3 v4)) :
 bodyPost P fn R .ret ⟨ts,[]⟩ (((((w1.setCell ⟨b,0,none⟩ v0).setCell ⟨b,1,none⟩ v1).setCell ⟨b,2,none⟩ v2).setCell ⟨b,3,none⟩ v3).setCell ⟨b,4,none⟩ v4) :=
 have hp5:=put5 v0 v1 v2 v3 v4 c0 c1 c2 c3 c4
 bodyPost_ret (QQ h hp (load_5 (o:=0) hA hS hp5.1 hp5.2.1 hp5.2.2.1 hp5.2.2.2.1 hp5.2.2.2.2)) rfl hR
end Go.Load
namespace Go.Sim
open Go Go.Instr Go.Conc
section
variable {P' P:Program} {K Ks:Cfg} {c g:Nat→Bool} {Sp:FuncId→Prop}
theorem VR.plain_eq {C:FuncId→Prop} {R:Nat→Nat→Prop}:∀{n:Nat} {v v':Value},VR C R v v'→zA n v=true→v'=v
 | 0,v,v',_,h=>by simp [zA] at h
 | n+1,v,v',hv,h=>by
   have key:∀{xs xs':Array Value},xs.size=xs'.size→(∀(i:Nat) (x x':Value),xs[i]? = some x→xs'[i]? = some x'→VR C R x x')→xs.all (zA n)=true→xs'=xs:=fun {xs xs'} hs he hx=>by
    rw [Array.all_eq_true'] at hx
    refine Array.ext hs.symm fun i h1 h2=>?_
    exact VR.plain_eq (he i xs[i] xs'[i] (by simp [h2]) (by simp [h1])) (hx _ (Array.getElem_mem h2))
   cases hv with
   | iface t hv=>rw [VR.plain_eq hv (by simpa [zA] using h)]
   | agg hs he=>rw [key hs he (by simpa [zA] using h)]
   | tuple hs he=>rw [key hs he (by simp only [zA,Bool.and_eq_true] at h;exact h.2)]
   | _=>first | rfl | (simp [zA] at h;done)
def Still {α:Type} (s:Sem α):Prop:=∀P w,(∃a,s.run P w=.ok a w)∨∃h,s.run P w=.halt h w
theorem Still.pure {α:Type} (a:α):Still (Pure.pure a:Sem α):=fun _ _=>.inl ⟨a,rfl⟩
theorem Still.bind {α β:Type} {s:Sem α} {f:α→Sem β} (h:Still s) (k:∀a,Still (f a)):Still (s >>= f):=fun P w=>by
 rcases h P w with ⟨a,e⟩ | ⟨x,e⟩
 ·rw [Sem.run_bind,e];exact k a P w
 ·rw [Sem.run_bind,e];exact .inr ⟨x,rfl⟩
theorem Still.stuck {α:Type} (m:String):Still (Go.stuck m:Sem α):=fun _ _=>.inr ⟨_,rfl⟩
theorem Still.halt {α:Type} (x:Halt):Still (.halt x:Sem α):=fun _ _=>.inr ⟨_,rfl⟩
theorem Still.program:Still Go.program:=fun _ _=>.inl ⟨_,rfl⟩
theorem Still.load (a:Addr):Still (Go.load a):=fun P w=>by
 rw [run_load]
 split
 ·exact .inl ⟨_,rfl⟩
 ·split
  ·exact .inl ⟨_,rfl⟩
  ·exact .inr ⟨_,rfl⟩
theorem Still.underlying (t:TypeId):Still (Go.underlying t):=by
 unfold Go.underlying
 refine Still.program.bind fun P=>?_
 split
 ·exact .pure _
 ·exact .stuck _
theorem Still.typeInfo (t:TypeId):Still (Go.typeInfo t):=by
 unfold Go.typeInfo
 refine Still.program.bind fun P=>?_
 split
 ·exact .pure _
 ·exact .stuck _
theorem Still.isAgg (t:TypeId):Still (Go.isAgg t):=by
 unfold Go.isAgg
 refine (Still.underlying t).bind fun d=>?_
 split <;> exact .pure _
theorem Still.sizeOf (t:TypeId):Still (Go.sizeOf t):=by
 unfold Go.sizeOf
 exact (Still.typeInfo t).bind fun d=>.pure _
theorem Still.loadCellsFrom (a:Addr) (i n:Nat) (acc:Array Value):Still (Go.loadCellsFrom a i n acc):=by
 induction n generalizing i acc with
 | zero=>exact .pure _
 | succ n ih =>
   unfold Go.loadCellsFrom
   exact (Still.load _).bind fun v=>ih _ _
theorem Still.loadVar (t:TypeId) (a:Addr):Still (Go.loadVar t a):=by
 unfold Go.loadVar
 refine (Still.isAgg t).bind fun b=>?_
 split
 ·exact (Still.sizeOf t).bind fun n=>(Still.loadCellsFrom _ _ _ _).bind fun c=>.pure _
 ·exact .load a
theorem Still.asAddr (v:Value):Still (Go.asAddr v):=by
 unfold Go.asAddr
 split <;> first
  | exact .pure _
  | exact .stuck _
  | (unfold Go.runtimePanic
     refine Still.program.bind fun P=>?_
     exact .halt _)
theorem Still.results (fn:Func) (ts:Array Value):Still (Go.results fn ts):=by
 unfold Go.results
 rw [Array.mapM_eq_mapM_toList,map_eq_pure_bind]
 simp only [bind_assoc,pure_bind]
 refine Still.bind ?_ fun _=>.pure _
 induction fn.results.toList with
 | nil=>exact .pure _
 | cons x l ih =>
   rw [List.mapM_cons]
   refine Still.bind ?_ fun v=>ih.bind fun _=>.pure _
   cases x with
   | tmp t=>exact .pure _
   | cell a t=>exact (Still.asAddr _).bind fun _=>.loadVar _ _
theorem qfu {P:Program} {m m1:Machine} {t t1:Trace}:∀{N M:Nat} {r:Stepped},runNT P N m t=(.next m1,t1)→runN P M m1=r→runN P (N+M) m=r:=by
 intro N
 induction N generalizing m t with
 | zero =>
   intro M r h1 h2
   simp only [runNT,Prod.mk.injEq,Stepped.next.injEq] at h1
   obtain ⟨rfl,rfl⟩:=h1
   rw [Nat.zero_add];exact h2
 | succ N ih =>
   intro M r h1 h2
   rw [Nat.succ_add]
   simp only [runNT] at h1
   simp only [runN,step]
   cases e:stepT P m with
   | mk s ops =>
     rw [e] at h1
     cases s with
     | next m2=>exact ih h1 h2
     | ended o w=>simp at h1
theorem qbo (Z:Cov K P' P c g Sp) (Zs:Cov Ks P' P' c g (fun _=>False)) {f:FuncId} {args:Array Value} {Ws W:World} {R:Nat→Nat→Prop} {Post:Value→World→Prop} (hPh:qbI K Ks P' P g Sp (FinP P' Post)) (hf:K.C f) (hs:¬ Sp f)
 (hargs:AR K.C R args args) (hargs':AR Ks.C R args args) (hf':Ks.C f)
 (h0:W0 K R Ws W) (h0s:W0 Ks R Ws Ws) (hn:ym Ws) (hg:∀n,g n=true→R n n) (hfz:∀b c,R b c→K.Fz b) (hkp:∀n,K.Fz n→R n n∧Ws.heap[n]? = K.bs[n]?∧W.heap[n]? = K.bt[n]?)
 (hP:∀v w t,Post v w→Post v (w.tp t)) (hp:∀v w,Post v w→zA 8 v=true)
 (hC:∀t,Calls P' f args (Ws.tp t) fun e w'=>∃v,e=.returned v∧Post v w') :
 ∃N last o w' t',runNT P (N+1) (solo (G (Frame.enter P f args .normal) []) W) #[]=(.ended o w',t')∧runN P N (solo (G (Frame.enter P f args .normal) []) W)=.next last∧step P last=.ended o w' ∧
  Conc.Good P (fun v w'=>(∃wf,Post v wf)∧(∀k,k < W.heap.size→w'.heap[k]? = W.heap[k]?)∧W.heap.size≤w'.heap.size∧w'.os=W.os∧w'.output=W.output∧w'.tape=W.tape) last o w' t':=by
 have hself:Xk Ks P' g (entryG P' f args [c0]) Ws:=⟨R,.mk (FR.enter Zs hf' (fun h=>h) hargs') (.base rfl),h0s,hn,hg⟩
 have hT:=LT.of_calls Zs hP hself hC
 have hM:MS K Ks P' P g (fun _=>False) R (entryG P' f args [c0]) Ws W:=⟨h0,hn,hself,hg,fun _ _ _ h=>h,fun _ h=>h.elim,hkp⟩
 have hG:GR K P' P (.lone []) R (entryG P' f args [c0]) (entryG P f args []):=.mk (FR.enter Z hf hs hargs) (.base rfl)
 have hR:RM P (fun _=>False) #[entryG P f args []] (entryG P f args []) W #[]:=⟨rfl,⟨fun _=>0,leavers_one P _⟩,by
  have h1:Past (fun _=>False) W.heap.size #[]:=past_nil.mono (Nat.zero_le _)
  have e:ShunOf (fun _=>False)=fun _=>False:=by
   funext l;cases l <;> rfl
  rw [e];exact h1,fun i op h=>by simp at h⟩
 obtain ⟨N,S1,R1,q1,w1,gs1,a1,w1',sl1,t1,r1,hl,hF,hG1,hM1,⟨hh,⟨qq,hL⟩,hPast,_⟩,hX,_⟩:=qbb Z Zs hPh hT _ R #[entryG P f args []] _ W none #[] (.inl hG) hM hR
 have hend:Goes P true AtRel (fun _ _ _=>False) (AtEnd P (ShunOf S1) w1'.heap.size (fun v w'=>(∃wf,Post v wf)∧(∀k,k < W.heap.size→w'.heap[k]? = W.heap[k]?)∧W.heap.size≤w'.heap.size∧w'.os=W.os∧w'.output=W.output∧w'.tape=W.tape)) 0 a1 w1':=by
  intro w₁ hw₁
  obtain ⟨d,rfl⟩:=hw₁
  obtain ⟨l1,l2,l3⟩:=hl
  obtain ⟨v,fn,e1,e2,e3⟩:=hF w1.tape
  cases hG1 with
  | @mk qa a' k k' ha hk =>
    simp only at l1 l2 l3 e1 e2
    have hdf:=ha.defers
    subst l3
    have hk':k'=[]:=by
     cases hk with
     | base _=>rfl
     | over h=>cases h with
       | cons h1 h2=>cases h2
    subst hk'
    refine ⟨rfl,?_⟩
    obtain ⟨F,f1,f2,hi⟩:=ha.std
    have hfd:a'.defers=[]:=by
     rw [l2] at hdf
     revert hdf
     generalize a'.defers=ds
     intro hdf
     cases hdf;rfl
    have hmd:a'.mode=.returning:=by
     rcases ha.mode with ⟨h,_⟩ | ⟨_,h⟩
     ·rw [l1] at h;cases h
     ·exact h
    have hfn:F=fn:=by rw [e1] at f1;cases f1;rfl
    subst hfn
    have hwr:WR (K.at w1.drawn) R1 (w1.tp (fun n z=>w1'.tape (d+(n - w1.drawn)) z)) (w1'.at d):=W0.wr (⟨hM1.w0.fn,hM1.w0.inj,hM1.w0.obj,hM1.w0.fz,hM1.w0.glob,hM1.w0.big,hM1.w0.big'⟩:W0 K R1 (w1.tp (fun n z=>w1'.tape (d+(n - w1.drawn)) z)) (w1'.at d)) _ fun j z _=>by
     show w1'.tape (d+j) z=w1'.tape (d+(w1.drawn+j - w1.drawn)) z
     rw [Nat.add_sub_cancel_left]
    obtain ⟨R2,v',w2',h1,h2,h3,h4,h5,_⟩:=(qc.results (K:=K.at w1.drawn) (P':=P') (P:=P) Z.toSame F ha.tmps _ _ hwr).1 v _ (e2 (fun n z=>w1'.tape (d+(n - w1.drawn)) z)) (Nat.le_refl _)
    have hv:v'=v:=VR.plain_eq h5 (hp v _ (e3 w1.tape))
    subst hv
    obtain ⟨fn0,ts,td,ds,mode,kind,ro⟩:=a'
    have hkd:=ha.kind'
    have hfe:=ha.fn
    simp only at hfd hmd hkd hfe h1 h4
    subst hfd hmd hkd
    have hi':P.inits.idxOf? fn0=none:=by
     rw [hfe]
     have hT:=Z.tables
     have e:P.inits=P'.inits:=by
      obtain ⟨T',f'⟩:=P';obtain ⟨T,f⟩:=P
      simp only at hT;subst hT;rfl
     rw [e];exact hi
    have f2':P.funcs[fn0]? = some F:=by rw [hfe];exact f2
    obtain rfl:w2'=w1'.at d:=by
     rcases Still.results F ts P (w1'.at d) with ⟨_,e⟩ | ⟨_,e⟩
     ·rw [h1] at e;cases e;rfl
     ·rw [h1] at e;cases e
    have hst:stepG P true { frame:={ fn:=fn0,tmps:=ts,todo:=td,defers:=[],mode:=.returning,kind:=.normal,roundOf:=ro },callers:=[],status:=.running,dying:=none } (w1'.at d)
     = .ended (.done v') (w1'.at d) (seen P fn0 ((Go.results F ts).events P (w1'.at d) #[])):=by
     unfold stepG
     dsimp only
     unfold unwind
     simp only [f2',Sem.runT_eq,h1,doReturn,hi']
     simp [GStep.after]
    refine ⟨v',_,hst,fun e he=>qdV (h4 e (mem_seen he)) (fun b c hr hc=>?_) (fun b c hr=>?_),⟨_,e3 w1.tape⟩,fun k hk=>hX.stay k hk fun b hr=>hfz b k hr,hX.size',hX.os',hX.out',hX.tp'⟩
    ·rcases h3.new b c hr with h | ⟨_,h⟩
     ·exact hM1.shun b c h hc
     ·have:=hM1.low c hc
      exact absurd h (Nat.not_le.2 this)
    ·obtain ⟨_,o',_,h2,_⟩:=h2.obj b c hr
     exact (Array.getElem?_eq_some_iff.1 h2).1
 obtain ⟨N2,last,o,w',t',b1,b2,b3,b4⟩:=beside_ends (sl:=sl1) (fun _ _ _ h=>h.elim) hh hL hPast hend
 have e0:(solo (G (Frame.enter P f args .normal) []) W)=crowd #[entryG P f args []] W none:=rfl
 rw [e0]
 refine ⟨N+N2,last,o,w',t',?_,?_,b3,b4⟩
 ·rw [Nat.add_assoc];exact yf r1 b1
 ·exact qfu r1 b2
end
end Go.Sim
namespace Go.Sim
open Go
theorem xR:∀v':Value,∃x,(∀(C:FuncId→Prop) (R:Nat→Nat→Prop),VR C R x v')∧∀(C:FuncId→Prop) (R:Nat→Nat→Prop),VR C R x x
 | .bool b=>⟨.bool b,fun _ _=>.bool b,fun _ _=>.bool b⟩
 | .int k n=>⟨.int k n,fun _ _=>.int k n,fun _ _=>.int k n⟩
 | .string s=>⟨.string s,fun _ _=>.string s,fun _ _=>.string s⟩
 | .nilFunc=>⟨.nilFunc,fun _ _=>.nilFunc,fun _ _=>.nilFunc⟩
 | .nilIface=>⟨.nilIface,fun _ _=>.nilIface,fun _ _=>.nilIface⟩
 | .agg xs=>by
   have h:∀i:Fin xs.size,∃x,(∀(C:FuncId→Prop) (R:Nat→Nat→Prop),VR C R x xs[i])∧∀(C:FuncId→Prop) (R:Nat→Nat→Prop),VR C R x x:=fun i=>xR xs[i]
   refine ⟨.agg (Array.ofFn fun i=>(h i).choose),fun C R=>.agg (by simp) fun i x x' e e'=>?_,fun C R=>.agg rfl fun i x x' e e'=>?_⟩
   ·obtain ⟨hi,rfl⟩:=Array.getElem?_eq_some_iff.1 e'
    have:(Array.ofFn fun i:Fin xs.size=>(h i).choose)[i]? = some (h ⟨i,hi⟩).choose:=by simp [hi]
    rw [this] at e;cases e
    exact (h ⟨i,hi⟩).choose_spec.1 C R
   ·have hi:i < xs.size:=by have:=(Array.getElem?_eq_some_iff.1 e).1;simpa using this
    have:(Array.ofFn fun i:Fin xs.size=>(h i).choose)[i]? = some (h ⟨i,hi⟩).choose:=by simp [hi]
    rw [this] at e e';cases e;cases e'
    exact (h ⟨i,hi⟩).choose_spec.2 C R
 | .tuple xs=>by
   have h:∀i:Fin xs.size,∃x,(∀(C:FuncId→Prop) (R:Nat→Nat→Prop),VR C R x xs[i])∧∀(C:FuncId→Prop) (R:Nat→Nat→Prop),VR C R x x:=fun i=>xR xs[i]
   refine ⟨.tuple (Array.ofFn fun i=>(h i).choose),fun C R=>.tuple (by simp) fun i x x' e e'=>?_,fun C R=>.tuple rfl fun i x x' e e'=>?_⟩
   ·obtain ⟨hi,rfl⟩:=Array.getElem?_eq_some_iff.1 e'
    have:(Array.ofFn fun i:Fin xs.size=>(h i).choose)[i]? = some (h ⟨i,hi⟩).choose:=by simp [hi]
    rw [this] at e;cases e
    exact (h ⟨i,hi⟩).choose_spec.1 C R
   ·have hi:i < xs.size:=by have:=(Array.getElem?_eq_some_iff.1 e).1;simpa using this
    have:(Array.ofFn fun i:Fin xs.size=>(h i).choose)[i]? = some (h ⟨i,hi⟩).choose:=by simp [hi]
    rw [this] at e e';cases e;cases e'
    exact (h ⟨i,hi⟩).choose_spec.2 C R
 | .float k b=>⟨.tuple #[],fun _ _=>.junk rfl,fun _ _=>VR.undef⟩
 | .complex k a b=>⟨.tuple #[],fun _ _=>.junk rfl,fun _ _=>VR.undef⟩
 | .pointer a=>⟨.tuple #[],fun _ _=>.junk rfl,fun _ _=>VR.undef⟩
 | .slice a l c=>⟨.tuple #[],fun _ _=>.junk rfl,fun _ _=>VR.undef⟩
 | .map r=>⟨.tuple #[],fun _ _=>.junk rfl,fun _ _=>VR.undef⟩
 | .chan r=>⟨.tuple #[],fun _ _=>.junk rfl,fun _ _=>VR.undef⟩
 | .func f a b=>⟨.tuple #[],fun _ _=>.junk rfl,fun _ _=>VR.undef⟩
 | .iface t v=>⟨.tuple #[],fun _ _=>.junk rfl,fun _ _=>VR.undef⟩
termination_by v=>SizeOf.sizeOf v
decreasing_by
 all_goals
  have:=Array.sizeOf_getElem xs i.1 i.2
  simp
  omega
section
variable (BK:Nat→Prop)
open Classical in
noncomputable def pl (v:Value):Value:=if (∃a l c,v=.slice (some a) l c∧BK a.block)∨(∃l c,v=.slice none l c)∨(∃a,v=.slice (some a) 0 0) then v else (xR v).choose
variable {BK}
theorem qfj {C:FuncId→Prop} {R:Nat→Nat→Prop} (h:∀b,BK b→R b b) (v:Value):VR C R (pl BK v) v:=by
 unfold pl
 split
 ·rename_i hx
  rcases hx with ⟨a,l,c,rfl,hb⟩ | ⟨l,c,rfl⟩ | ⟨a,rfl⟩
  ·exact .slice l c ⟨h _ hb,rfl,rfl⟩
  ·exact .snil _ _
  ·exact .zcap a
 ·exact (xR v).choose_spec.1 C R
theorem pl_self {C:FuncId→Prop} {R:Nat→Nat→Prop} (h:∀b,BK b→R b b) (v:Value):VR C R (pl BK v) (pl BK v):=by
 unfold pl
 split
 ·rename_i hx
  rcases hx with ⟨a,l,c,rfl,hb⟩ | ⟨l,c,rfl⟩ | ⟨a,rfl⟩
  ·exact .slice l c ⟨h _ hb,rfl,rfl⟩
  ·exact .snil _ _
  ·exact .zcap a
 ·exact (xR v).choose_spec.2 C R
theorem VR.int_eq {C:FuncId→Prop} {R:Nat→Nat→Prop} {x:Value} {k:IntKind} {n:Int} (h:VR C R x (.int k n)):x=.int k n:=by
 cases h with
 | int=>rfl
 | junk h=>simp [jM] at h
theorem VR.string_eq {C:FuncId→Prop} {R:Nat→Nat→Prop} {x:Value} {s:ByteArray} (h:VR C R x (.string s)):x=.string s:=by
 cases h with
 | string=>rfl
 | junk h=>simp [jM] at h
theorem pl_int {k:IntKind} {n:Int}:pl BK (.int k n)=.int k n:=(qfj (C:=fun _=>True) (R:=fun _ _=>True) (fun _ _=>trivial) _).int_eq
theorem pl_string {s:ByteArray}:pl BK (.string s)=.string s:=(qfj (C:=fun _=>True) (R:=fun _ _=>True) (fun _ _=>trivial) _).string_eq
theorem qcg {a:Addr} {l c:Nat} (h:BK a.block):pl BK (.slice (some a) l c)=.slice (some a) l c:=by
 unfold pl;rw [if_pos (.inl ⟨a,l,c,rfl,h⟩)]
theorem pl_snil {l c:Nat}:pl BK (.slice none l c)=.slice none l c:=by
 unfold pl;rw [if_pos (.inr (.inl ⟨l,c,rfl⟩))]
theorem pl_zcap {a:Addr}:pl BK (.slice (some a) 0 0)=.slice (some a) 0 0:=by
 unfold pl;rw [if_pos (.inr (.inr ⟨a,rfl⟩))]
variable (BK) (Gl:Nat→Prop)
open Classical in
noncomputable def qal (bs:Array Obj) (w:World) (i:Nat):Obj :=
 if Gl i then (bs[i]?).getD (.cells #[] 0 (0,0)) else if BK i then (match w.heap[i]? with | some (.cells c e f)=>.cells (c.map (pl fun b=>BK b∨Gl b)) e (0,max (max c.size f.2) 1) | _=>.cells #[] 0 (0,0)) else .cells #[] 0 (0,0)
noncomputable def yL (bs:Array Obj) (w:World):World:={ w with heap:=Array.ofFn (n:=w.heap.size) fun i=>qal BK Gl bs w i.1 }
variable {BK Gl} {bs:Array Obj} {w:World}
theorem Qj:(yL BK Gl bs w).heap.size=w.heap.size:=by simp [yL]
theorem YR {i:Nat} (h:i < w.heap.size):(yL BK Gl bs w).heap[i]? = some (qal BK Gl bs w i):=by simp [yL,h]
theorem Qi {i:Nat} {c:Array Value} {e:TypeId} {f:Nat×Nat} (h:w.heap[i]? = some (.cells c e f)) (hb:BK i) (hg:¬ Gl i):(yL BK Gl bs w).heap[i]? = some (.cells (c.map (pl fun b=>BK b∨Gl b)) e (0,max (max c.size f.2) 1)):=by
 rw [YR (Array.getElem?_eq_some_iff.1 h).1]
 unfold qal
 rw [if_neg hg,if_pos hb,h]
theorem Xy {a:Addr} {v:Value} (h:w.cell? a=some v) (hb:BK a.block) (hg:¬ Gl a.block):(yL BK Gl bs w).cell? a=some ((pl fun b=>BK b∨Gl b) v):=by
 unfold World.cell? at h ⊢
 cases e:w.heap[a.block]? with
 | none=>rw [e] at h;cases h
 | some o =>
   rw [e] at h
   cases o with
   | cells c t f =>
     rw [Qi e hb hg]
     simp only at h ⊢
     split at h
     ·cases h
     ·rw [if_neg ‹_›];simp [h]
   | _=>cases h
theorem yg {i:Nat} {o:Obj} (hi:i < w.heap.size) (hg:Gl i) (h:bs[i]? = some o):(yL BK Gl bs w).heap[i]? = some o:=by
 rw [YR hi]
 unfold qal
 rw [if_pos hg,h];rfl
def RS (BK Gl:Nat→Prop) (b c:Nat):Prop:=b=c∧(BK b∨Gl b)
theorem YS (hG:∀b,Gl b→∃c e hi,bs[b]? = some (.cells c e (0,hi))∧c.size≤hi):ym (yL BK Gl bs w):=fun b x h=>by
 have hb:b < w.heap.size:=by have:=(Array.getElem?_eq_some_iff.1 h).1;rwa [Qj] at this
 rw [YR hb] at h
 exfalso
 unfold qal at h
 split at h
 ·obtain ⟨c,e,hi,e1,_⟩:=hG b ‹_›
  rw [e1] at h;simp at h
 ·split at h
  ·split at h <;> simp at h
  ·simp at h
theorem qee {c f1 f2:Nat}:FzR (0,max (max c f2) 1) (f1,f2):=.inr ⟨rfl,by show 0 < max (max c f2) 1;omega,by show f2≤max (max c f2) 1;omega⟩
theorem qaQ {n:Nat} (h:0 < n):FzR (0,n) (0,n):=.inr ⟨rfl,h,Nat.le_refl _⟩
theorem qck {K:Cfg} (hBK:∀b,BK b→∃c e f,w.heap[b]? = some (.cells c e f)) (hng:K.ng≤w.heap.size) (hGw:∀b,Gl b→∃o o',bs[b]? = some o∧w.heap[b]? = some o'∧OR K.C K.D (RS BK Gl) o o')
 (hG:∀b,Gl b→∃c e hi,bs[b]? = some (.cells c e (0,hi))∧c.size≤hi) (hd:∀b,BK b→¬ Gl b) (hFz:∀b,K.Fz b↔BK b∨Gl b):W0 K (RS BK Gl) (yL BK Gl bs w) w:=by
 refine ⟨fun b c d h k=>h.1.symm.trans k.1,fun b c d h k=>h.1.trans k.1.symm,?_,fun b hb=>?_,fun b c h=>by rw [h.1],by rw [Qj];exact hng,hng⟩
 ·rintro b c ⟨rfl,hb⟩
  by_cases hg:Gl b
  ·obtain ⟨o,o',h1,h2,h3⟩:=hGw b hg
   exact ⟨o,o',yg (Array.getElem?_eq_some_iff.1 h2).1 hg h1,h2,h3⟩
  ·have hb:=hb.resolve_right hg
   obtain ⟨c,e,f,h⟩:=hBK b hb
   refine ⟨_,_,Qi h hb hg,h,.cells e ?_ qee⟩
   have:=AR.map (C:=K.C) (R:=RS BK Gl) c (f:=(pl fun b=>BK b∨Gl b)) (g:=id) fun x _=>qfj (fun b hb=>⟨rfl,hb⟩) x
   simpa using this
 ·rcases (hFz b).1 hb with hb | hg
  ·by_cases hg:Gl b
   ·exact absurd hg (hd b hb)
   ·obtain ⟨c,e,f,h⟩:=hBK b hb
    exact ⟨_,_,_,Qi h hb hg,by simp;omega⟩
  ·obtain ⟨o,o',h1,h2,_⟩:=hGw b hg
   obtain ⟨c,e,hi,e1,e2⟩:=hG b hg
   exact ⟨c,e,hi,yg (Array.getElem?_eq_some_iff.1 h2).1 hg e1,e2⟩
theorem Xz {K:Cfg} (hBK:∀b,BK b→∃c e f,w.heap[b]? = some (.cells c e f)) (hng:K.ng≤w.heap.size) (hGw:∀b,Gl b→b < w.heap.size∧∃o,bs[b]? = some o∧OR K.C K.D (RS BK Gl) o o)
 (hG:∀b,Gl b→∃c e hi,bs[b]? = some (.cells c e (0,hi))∧c.size≤hi) (hd:∀b,BK b→¬ Gl b) (hFz:∀b,K.Fz b↔BK b∨Gl b):W0 K (RS BK Gl) (yL BK Gl bs w) (yL BK Gl bs w):=by
 refine ⟨fun b c d h k=>h.1.symm.trans k.1,fun b c d h k=>h.1.trans k.1.symm,?_,fun b hb=>?_,fun b c h=>by rw [h.1],by rw [Qj];exact hng,by rw [Qj];exact hng⟩
 ·rintro b c ⟨rfl,hb⟩
  by_cases hg:Gl b
  ·obtain ⟨hl,o,h1,h3⟩:=hGw b hg
   exact ⟨o,o,yg hl hg h1,yg hl hg h1,h3⟩
  ·have hb:=hb.resolve_right hg
   obtain ⟨c,e,f,h⟩:=hBK b hb
   refine ⟨_,_,Qi h hb hg,Qi h hb hg,.cells e ?_ (qaQ (by omega))⟩
   exact AR.map c fun x _=>pl_self (fun b hb=>⟨rfl,hb⟩) x
 ·rcases (hFz b).1 hb with hb | hg
  ·by_cases hg:Gl b
   ·exact absurd hg (hd b hb)
   ·obtain ⟨c,e,f,h⟩:=hBK b hb
    exact ⟨_,_,_,Qi h hb hg,by simp;omega⟩
  ·obtain ⟨hl,o,h1,_⟩:=hGw b hg
   obtain ⟨c,e,hi,e1,e2⟩:=hG b hg
   exact ⟨c,e,hi,yg hl hg e1,e2⟩
end
end Go.Sim
section
namespace Go.Sim
open Go Go.Instr Go.Conc
open Go.ConcN (sumTo upd sumTo_upd upd_ne upd_same)
section
variable {P:Program} {S:Nat→Prop} {D:World→World→Array Event→Prop} {Stop:Goroutine→World→Prop}
theorem qft {β:World→Nat} (hβ:∀w d,β (w.at d)=β w) (hD:∀w w' es,D w w' es→β w≤β w'∧∀e∈es,EvL (ShunOf S) (β w') e) :
 ∀(M n:Nat) (gs:Array Goroutine) (a:Goroutine) (w:World) (sl:Option (Nat×Nat)) (t:Trace) (qq:Nat→Nat),n+sumTo gs.size qq≤M→gs[0]? = some a→Leavers P t gs qq→Past (ShunOf S) (β w) t→(∀(i:Nat) (op:MemOp),t[i]? = some op→op.g < gs.size)→Goes P true AtRel D Stop n a w →
  ∃(N:Nat) (gs':Array Goroutine) (a':Goroutine) (w':World) (sl':Option (Nat×Nat)) (t':Trace),runNT P N (crowd gs w sl) t=(.next (crowd gs' w' sl'),t')∧(gs'[0]? = some a'∧(∃qq,Leavers P t' gs' qq)∧Past (ShunOf S) (β w') t'∧∀(i:Nat) (op:MemOp),t'[i]? = some op→op.g < gs'.size)∧Stop a' w':=by
 intro M
 induction M using Nat.strongRecOn with
 | _ M ih =>
 intro n gs a w sl t qq hq h0 hL hP hNm hG
 cases n with
 | zero=>exact ⟨0,gs,a,w,sl,t,rfl,⟨h0,⟨qq,hL⟩,hP,hNm⟩,hG w (atRel_refl w)⟩
 | succ n =>
 rcases hG with hstop | ⟨hrun,hstep⟩
 ·exact ⟨0,gs,a,w,sl,t,rfl,⟨h0,⟨qq,hL⟩,hP,hNm⟩,hstop w (atRel_refl w)⟩
 have haw:∀x∈gs,awake x:=by
  intro x hx
  obtain ⟨i,hi,rfl⟩:=Array.mem_iff_getElem.1 hx
  rcases Nat.eq_zero_or_pos i with rfl | hpos
  ·have:gs[0]=a:=by simpa [Array.getElem?_eq_getElem hi] using h0
   rw [this];exact awake_of (.inl hrun)
  ·exact awake_of ((hL.old i _ hpos (Array.getElem?_eq_getElem hi)).status.elim .inl fun x=>.inr (.inr x))
 obtain ⟨i,x,d,sl',hi,hx,hst⟩:=crowd_pick (P:=P) (w:=w) (sl:=sl) haw ⟨0,a,h0,hrun⟩
 rcases Nat.eq_zero_or_pos i with rfl | hpos
 ·obtain rfl:x=a:=by rw [h0] at hi;exact (Option.some.inj hi).symm
  have hs:=hstep (w.at d) ⟨d,rfl⟩
  cases e:stepG P true x (w.at d) with
  | go a1 w1 es =>
    rw [e] at hs
    obtain ⟨hd,hg⟩:=hs
    obtain ⟨hsz,hev⟩:=hD _ _ _ hd
    have hsz':β w≤β w1:=by rw [hβ] at hsz;exact hsz
    have hrunT:=runT_crowd_go (P:=P) (sl:=sl') (i:=0) hi (show stepG P (0 == 0) x (w.at d)=_ from e)
    have hlt:0 < gs.size:=(Array.getElem?_eq_some_iff.1 h0).1
    have hsize:((gs.map (woken P x a1 w1)).setIfInBounds 0 a1).size=gs.size:=by simp
    obtain ⟨N,gs1,a2,w2,sl2,t2,r1,r2,r3⟩:=ih (n+sumTo gs.size qq) (by omega) n ((gs.map (woken P x a1 w1)).setIfInBounds 0 a1) a1 w1 sl' (t ++ MemOp.ofEvents 0 x.frame.fn x.frame.place es) qq (by rw [hsize];exact Nat.le_refl _) (by simp [hlt])
     ⟨fun j y hj hy=>by
       have hne:0≠j:=by omega
       rw [Array.getElem?_setIfInBounds_ne hne,Array.getElem?_map] at hy
       obtain ⟨z,hz,rfl⟩:=Option.map_eq_some_iff.1 hy
       have hq:=hL.old j z hj hz
       rw [woken_quitsD hq,Deaf_other t (by omega) _ (fun op hop=>by obtain ⟨e,_,rfl⟩:=Go.Conc.mem_ofEvents hop;rfl)]
       exact hq,fun j hj=>by
       rw [Deaf_other t (g':=0) (by simp at hj;omega) _ (fun op hop=>by obtain ⟨e,_,rfl⟩:=Go.Conc.mem_ofEvents hop;rfl)]
       exact hL.above j (by simpa using hj)⟩
     ((hP.mono hsz').own hev) (Qf hNm (by simp) fun op hop=>by obtain ⟨e,_,rfl⟩:=Go.Conc.mem_ofEvents hop;simpa using hlt) hg
    exact ⟨N+1,gs1,a2,w2,sl2,t2,by simp only [runNT,hst,hrunT];exact r1,r2,r3⟩
  | _=>rw [e] at hs;exact hs.elim
 ·have hq1:=hL.old i x hpos hi
  have hi0:(i == 0)=false:=by simp;omega
  have hlt:i < gs.size:=(Array.getElem?_eq_some_iff.1 hi).1
  cases hqi:qq i with
  | zero=>rw [hqi] at hq1;rw [hq1.1] at hx;cases hx
  | succ k =>
    rw [hqi] at hq1
    rcases hq1 with ⟨hf,_⟩ | ⟨_,g',es,hm,hstp,hq'⟩
    ·rw [hf] at hx;cases hx
    have hrunT:=runT_crowd_go (P:=P) (sl:=sl') (i:=i) hi (by rw [hi0];exact hstp (w.at d))
    have hsz:((gs.map (woken P x g' (w.at d))).setIfInBounds i g').size=gs.size:=by simp
    have hsum:sumTo gs.size (upd qq i k)+(k+1)=sumTo gs.size qq+k:=by
     have:=sumTo_upd qq k id hlt
     simpa [hqi] using this
    obtain ⟨N,gs1,a2,w2,sl2,t2,r1,r2,r3⟩:=ih (n+1+sumTo gs.size (upd qq i k)) (by omega) (n+1) ((gs.map (woken P x g' (w.at d))).setIfInBounds i g') a (w.at d) sl' (t ++ MemOp.ofEvents i x.frame.fn x.frame.place es) (upd qq i k) (by rw [hsz];exact Nat.le_refl _)
     (by
       have hne:i≠0:=by omega
       rw [Array.getElem?_setIfInBounds_ne hne,Array.getElem?_map,h0]
       simp [woken_run hrun])
     ⟨fun j y hj hy=>by
       by_cases hji:i=j
       ·subst hji
        rw [Array.getElem?_setIfInBounds_self_of_lt (by simpa using hlt)] at hy
        obtain rfl:=Option.some.inj hy
        rw [upd_same,Deaf_own]
        exact hq'
       ·rw [Array.getElem?_setIfInBounds_ne hji,Array.getElem?_map] at hy
        obtain ⟨z,hz,rfl⟩:=Option.map_eq_some_iff.1 hy
        have hqj:=hL.old j z hj hz
        rw [woken_quitsD hqj,upd_ne qq k (Ne.symm hji),Deaf_other t hji _ (fun op hop=>by obtain ⟨e,_,rfl⟩:=Go.Conc.mem_ofEvents hop;rfl)]
        exact hqj,fun j hj=>by
       rw [Deaf_other t (g':=i) (by simp at hj;omega) _ (fun op hop=>by obtain ⟨e,_,rfl⟩:=Go.Conc.mem_ofEvents hop;rfl)]
       exact hL.above j (by simpa using hj)⟩
     (by rw [hβ];exact hP.mute (by omega) hm) (Qf hNm (by simp) fun op hop=>by obtain ⟨e,_,rfl⟩:=Go.Conc.mem_ofEvents hop;simpa using hlt)
     (.inr ⟨hrun,fun w₁ h₁=>hstep w₁ (atRel_trans _ _ _ ⟨d,rfl⟩ h₁)⟩)
    exact ⟨N+1,gs1,a2,w2,sl2,t2,by simp only [runNT,hst,hrunT];exact r1,r2,r3⟩
theorem RM.walkB {B:Nat} (hD:∀w w' es,D w w' es→∀e∈es,EvL (ShunOf S) B e) {n:Nat} {gs:Array Goroutine} {a:Goroutine} {w:World} {sl:Option (Nat×Nat)} {t:Trace} (h:RM P S gs a w t) (hB:B=w.heap.size) (hG:Goes P true AtRel D Stop n a w) :
 ∃(N:Nat) (gs':Array Goroutine) (a':Goroutine) (w':World) (sl':Option (Nat×Nat)) (t':Trace),runNT P N (crowd gs w sl) t=(.next (crowd gs' w' sl'),t')∧(gs'[0]? = some a'∧(∃qq,Leavers P t' gs' qq)∧Past (ShunOf S) B t'∧∀(i:Nat) (op:MemOp),t'[i]? = some op→op.g < gs'.size)∧Stop a' w':=by
 obtain ⟨h0,⟨qq,hL⟩,hP,hN⟩:=h
 exact qft (β:=fun _=>B) (fun _ _=>rfl) (fun w w' es hd=>⟨Nat.le_refl _,hD w w' es hd⟩) _ n gs a w sl t qq (Nat.le_refl _) h0 hL (by subst hB;exact hP) hN hG
theorem RM.walk (hD:∀w w' es,D w w' es→w.heap.size≤w'.heap.size∧∀e∈es,EvL (ShunOf S) w'.heap.size e) {n:Nat} {gs:Array Goroutine} {a:Goroutine} {w:World} {sl:Option (Nat×Nat)} {t:Trace} (h:RM P S gs a w t) (hG:Goes P true AtRel D Stop n a w) :
 ∃(N:Nat) (gs':Array Goroutine) (a':Goroutine) (w':World) (sl':Option (Nat×Nat)) (t':Trace),runNT P N (crowd gs w sl) t=(.next (crowd gs' w' sl'),t')∧RM P S gs' a' w' t'∧Stop a' w':=by
 obtain ⟨h0,⟨qq,hL⟩,hP,hN⟩:=h
 obtain ⟨N,gs',a',w',sl',t',r1,⟨r2,r3,r4,r5⟩,r6⟩:=qft (β:=fun w=>w.heap.size) (fun _ _=>rfl) hD _ n gs a w sl t qq (Nat.le_refl _) h0 hL hP hN hG
 exact ⟨N,gs',a',w',sl',t',r1,⟨r2,r3,r4,r5⟩,r6⟩
end
section
variable {P' P:Program} {K Ks:Cfg} {c g:Nat→Bool}
theorem FsR.deeper {bs:Bs} {R:Nat→Nat→Prop} {k k':List Frame} (h:FsR K P' P bs R k k'):bs.src.length < k.length:=by
 induction h with
 | one _ _=>simp
 | cons _ _ ih=>simp;omega
variable {Sp:FuncId→Prop} {Fin:Goroutine→World→Prop}
theorem qet (Z:Cov K P' P' c g (fun _=>False)) {a:Frame} {b:Frame} {scs:List Frame} {w:World} (hT:LT P' true Fin (G a (b :: scs)) w) (hS:Xk K P' g (G a (b :: scs)) w) (hscs:scs≠[]) (l1:a.mode=.returning) (l2:a.defers=[]) :
 ∃v fn,P'.funcs[a.fn]? = some fn∧(∀t,(Go.results fn a.tmps).run P' (w.tp t)=.ok v (w.tp t))∧yB P' (G a (b :: scs)) w (G (b.finish v) scs) w∧LT P' true Fin (G (b.finish v) scs) w∧Xk K P' g (G (b.finish v) scs) w:=by
 have hnl:¬ Leaves (G a (b :: scs)):=fun h=>by
  have:=h.2.2
  simp only [G,List.cons.injEq] at this
  exact hscs this.2
 obtain ⟨g1,w1,es,e,hb⟩:∃g1 w1 es,stepG P' true (G a (b :: scs)) (w.tp w.tape)=.go g1 w1 es∧¬ Bad g1:=by
  cases hT with
  | fin h _=>exact absurd h hnl
  | step _ nx h1 _=>obtain ⟨es,e,hb⟩:=h1 w.tape;exact ⟨_,_,es,e,hb⟩
 have hT1:=(hT.child hnl e).2
 have hS1:=(hS.turn Z hnl w.tape e).2 hb
 obtain ⟨R,hg,hw,_,_⟩:=hS
 have e0:stepG P' true (G a (b :: scs)) w=.go g1 w1 es:=e
 cases hg with
 | mk ha _ =>
   have hw':WR (K.at w.drawn) R w w:=hw.wr _ fun _ _ _=>rfl
   obtain ⟨F,f1,_,_⟩:=ha.std
   have hk:=ha.kind
   have hss:=(qc.results (K:=K.at w.drawn) (P':=P') (P:=P') Z.toSame F ha.tmps w w hw').2.2
   obtain ⟨fn0,ts,td,ds,mode,kind,ro⟩:=a
   simp only at l1 l2 hk f1 hss
   subst l1 l2 hk
   have hr:∃v,(Go.results F ts).run P' w=.ok v w:=by
    rcases Still.results F ts P' w with ⟨v,h⟩ | ⟨x,h⟩
    ·exact ⟨v,h⟩
    ·exfalso
     have hs:∃o w1 es,stepG P' true (G { fn:=fn0,tmps:=ts,todo:=td,defers:=[],mode:=.returning,kind:=.normal,roundOf:=ro } (b :: scs)) w=.ended o w1 es:=by
      unfold stepG
      dsimp only [G]
      unfold unwind
      simp only [f1,Sem.runT_eq,h]
      cases x <;> exact ⟨_,_,_,rfl⟩
     obtain ⟨_,_,_,hs⟩:=hs
     rw [hs] at e0;cases e0
   obtain ⟨v,hr⟩:=hr
   have hs:∃es,stepG P' true (G { fn:=fn0,tmps:=ts,todo:=td,defers:=[],mode:=.returning,kind:=.normal,roundOf:=ro } (b :: scs)) w=.go (G (b.finish v) scs) w es:=by
    unfold stepG
    dsimp only [G]
    unfold unwind
    simp only [f1,Sem.runT_eq,hr]
    exact ⟨_,rfl⟩
   obtain ⟨_,hs⟩:=hs
   rw [hs] at e0
   simp only [GStep.go.injEq] at e0
   obtain ⟨e1,e2,_⟩:=e0
   subst e1 e2
   refine ⟨v,F,f1,fun t=>?_,⟨w.tape,_,_,_,hnl,e,.refl _ _⟩,hT1,hS1⟩
   have:=hss (by rw [hr];exact Nat.le_refl _) t (by rw [hr];exact fun i q a b=>absurd (Nat.lt_of_le_of_lt a b) (Nat.lt_irrefl _))
   rw [this,hr]
   rfl
theorem qcx (Z:Cov K P' P c g Sp) (Zs:Cov Ks P' P' c g (fun _=>False)) {f:FuncId} {args args':Array Value} {S:Nat→Prop} {R:Nat→Nat→Prop} {w w':World}
 {sb:Frame} {sa:Go.Act} {sops:Array Oper} {si:Nat} {srest:List Nat} {skk:List Item} {scs:List Frame} (hscs:scs≠[]) {bf:Frame} {aa:Go.Act} {ops:Array Oper} {i:Nat} {rest:List Nat} {kk:List Item} {cs:List Frame}
 (hI:Main K Ks P' P g Sp Fin (G (Frame.enter P' f args .normal) (sb.at sa (.inRegion sops (si :: srest) :: skk) :: scs)) w)
 (hM:MS K Ks P' P g S R (G (Frame.enter P' f args .normal) (sb.at sa (.inRegion sops (si :: srest) :: skk) :: scs)) w w') (hA:AR K.C R args args') (hf:K.C f) (hs:¬ Sp f) (hb:BadK (sb.at sa (.inRegion sops (si :: srest) :: skk) :: scs))
 {gs:Array Goroutine} {sl:Option (Nat×Nat)} {t:Trace} (hR:RM P S gs (G (Frame.enter P f args' .normal) (bf.at aa (.inRegion ops (i :: rest) :: kk) :: cs)) w' t) :
 ∃(N:Nat) (gs1:Array Goroutine) (w1':World) (sl1:Option (Nat×Nat)) (t1:Trace) (v v':Value) (w1:World) (R1:Nat→Nat→Prop) (S1:Nat→Prop),runNT P N (crowd gs w' sl) t=(.next (crowd gs1 w1' sl1),t1) ∧
  RM P S1 gs1 (G (bf.at (aa.put ((ops[i]?).bind (·.dst)) v') (.inRegion ops rest :: kk)) cs) w1' t1 ∧
  yB P' (G (Frame.enter P' f args .normal) (sb.at sa (.inRegion sops (si :: srest) :: skk) :: scs)) w (G (sb.at (sa.put ((sops[si]?).bind (·.dst)) v) (.inRegion sops srest :: skk)) scs) w1 ∧
  LT P' true Fin (G (sb.at (sa.put ((sops[si]?).bind (·.dst)) v) (.inRegion sops srest :: skk)) scs) w1∧MS K Ks P' P g S1 R1 (G (sb.at (sa.put ((sops[si]?).bind (·.dst)) v) (.inRegion sops srest :: skk)) scs) w1 w1' ∧
  VR K.C R1 v v'∧Ext0 K R R1 w w' w1 w1'∧∀c,S1 c→S c∨w'.heap.size≤c:=by
 have hG:GR K P' P ⟨_,bf.at aa (.inRegion ops (i :: rest) :: kk) :: cs,hb⟩ R (G (Frame.enter P' f args .normal) (sb.at sa (.inRegion sops (si :: srest) :: skk) :: scs)) (G (Frame.enter P f args' .normal) (bf.at aa (.inRegion ops (i :: rest) :: kk) :: cs)):=.mk (FR.enter Z hf hs hA) (.base rfl)
 obtain ⟨N,S1,R1,q1,w1,gs1,a1,w1',sl1,t1,r1,hl,hT1,hd,hG1,hM1,hR1,hX,hSS⟩:=hI ⟨_,_,hb⟩ S R gs _ w' sl t (.inl hG) hM hR
 obtain ⟨l1,l2,l3⟩:=hl
 cases hG1 with
 | @mk qa a' kq ka ha hkr =>
   simp only at l1 l2 l3
   subst l3
   obtain ⟨rfl⟩:ka=bf.at aa (.inRegion ops (i :: rest) :: kk) :: cs:=by
    cases hkr with
    | base _=>rfl
    | over h=>exact absurd h.deeper (Nat.lt_irrefl _)
   obtain ⟨v,fn,e1,e2,hB,hTv,hSv⟩:=qet Zs hT1 hM1.self hscs l1 l2
   rw [Frame.finish_at] at hB hTv hSv
   have hback:Goes P true AtRel (fun w w' es=>w.heap.size≤w'.heap.size∧∀e∈es,EvL (ShunOf S1) w'.heap.size e)
    (fun a' w'=>(∃d,w'=w1'.at d)∧∃v',VR K.C R1 v v'∧a'=G (bf.at (aa.put ((ops[i]?).bind (·.dst)) v') (.inRegion ops rest :: kk)) cs) 1 { frame:=a',callers:=bf.at aa (.inRegion ops (i :: rest) :: kk) :: cs,status:=.running,dying:=none } w1':=by
    refine Goes.step rfl fun w2 hr=>?_
    obtain ⟨d,rfl⟩:=hr
    have hdf:=ha.defers
    obtain ⟨Fn,f1,f2,hi⟩:=ha.std
    have hfd:a'.defers=[]:=by
     rw [l2] at hdf
     revert hdf
     generalize a'.defers=ds
     intro hdf
     cases hdf;rfl
    have hmd:a'.mode=.returning:=by
     rcases ha.mode with ⟨h,_⟩ | ⟨_,h⟩
     ·rw [l1] at h;cases h
     ·exact h
    have hfn:Fn=fn:=by rw [e1] at f1;cases f1;rfl
    subst hfn
    have hwr:WR (K.at w1.drawn) R1 (w1.tp (fun n z=>w1'.tape (d+(n - w1.drawn)) z)) (w1'.at d):=W0.wr (⟨hM1.w0.fn,hM1.w0.inj,hM1.w0.obj,hM1.w0.fz,hM1.w0.glob,hM1.w0.big,hM1.w0.big'⟩:W0 K R1 (w1.tp (fun n z=>w1'.tape (d+(n - w1.drawn)) z)) (w1'.at d)) _ fun j z _=>by
     show w1'.tape (d+j) z=w1'.tape (d+(w1.drawn+j - w1.drawn)) z
     rw [Nat.add_sub_cancel_left]
    obtain ⟨R2,v',w2',h1,h2,h3,h4,h5,_⟩:=(qc.results (K:=K.at w1.drawn) (P':=P') (P:=P) Z.toSame Fn ha.tmps _ _ hwr).1 v _ (e2 (fun n z=>w1'.tape (d+(n - w1.drawn)) z)) (Nat.le_refl _)
    obtain rfl:w2'=w1'.at d:=by
     rcases Still.results Fn a'.tmps P (w1'.at d) with ⟨_,e⟩ | ⟨_,e⟩
     ·rw [h1] at e;cases e;rfl
     ·rw [h1] at e;cases e
    have hR2:∀b c,R2 b c→R1 b c:=fun b c hr=>by
     rcases h3.new b c hr with h | ⟨_,h⟩
     ·exact h
     ·obtain ⟨_,o',_,h6,_⟩:=h2.obj b c hr
      have:=(Array.getElem?_eq_some_iff.1 h6).1
      exact absurd h (Nat.not_le.2 this)
    obtain ⟨fn0,ts,td,ds,mode,kind,ro⟩:=a'
    have hkd:=ha.kind'
    have hfe:=ha.fn
    simp only at hfd hmd hkd hfe h1 h4
    subst hfd hmd hkd
    have f2':P.funcs[fn0]? = some Fn:=by rw [hfe];exact f2
    have hfin:(bf.at aa (.inRegion ops (i :: rest) :: kk)).finish v'=bf.at (aa.put ((ops[i]?).bind (·.dst)) v') (.inRegion ops rest :: kk):=Frame.finish_at ..
    have hst:stepG P true { frame:={ fn:=fn0,tmps:=ts,todo:=td,defers:=[],mode:=.returning,kind:=.normal,roundOf:=ro },callers:=bf.at aa (.inRegion ops (i :: rest) :: kk) :: cs,status:=.running,dying:=none } (w1'.at d)
     = .go (G (bf.at (aa.put ((ops[i]?).bind (·.dst)) v') (.inRegion ops rest :: kk)) cs) (w1'.at d) (seen P fn0 ((Go.results Fn ts).events P (w1'.at d) #[])):=by
     unfold stepG
     dsimp only
     unfold unwind
     simp only [f2',Sem.runT_eq,h1,doReturn]
     rw [hfin]
     simp [GStep.after,G]
    rw [hst,goes_go]
    refine ⟨⟨Nat.le_refl _,fun e he=>qdV (h4 e (mem_seen he)) (fun b c hr=>hM1.shun b c (hR2 b c hr)) (fun b c hr=>?_)⟩,fun w3 hr3=>?_⟩
    ·obtain ⟨_,o',_,h6,_⟩:=h2.obj b c hr
     exact (Array.getElem?_eq_some_iff.1 h6).1
    ·obtain ⟨d',rfl⟩:=hr3
     exact ⟨⟨d',rfl⟩,v',VR.mono hR2 h5,rfl⟩
   obtain ⟨N2,gs2,a2,w2,sl2,t2,k1,k2,⟨d,rfl⟩,v',k3,rfl⟩:=hR1.walk (sl:=sl1) (fun _ _ _ h=>h) hback
   refine ⟨N+N2,gs2,w1'.at d,sl2,t2,v,v',w1,R1,S1,yf r1 k1,k2,?_,hTv,⟨⟨hM1.w0.fn,hM1.w0.inj,hM1.w0.obj,hM1.w0.fz,hM1.w0.glob,hM1.w0.big,hM1.w0.big'⟩,hM1.nd,hSv,hM1.glob,hM1.shun,hM1.low,hM1.keep⟩,k3,⟨hX.le,hX.new,hX.size,hX.size',hX.stay,hX.tp',hX.os',hX.out',hX.held⟩,hSS⟩
   obtain ⟨tt,x,y,z,z1,z2,z3⟩:=hB
   have hBd:=hd.trans (.step tt z1 z2 z3)
   exact hBd.below1 fun e=>by
    have:=congrArg (fun q:Goroutine=>q.callers.length) e
    simp [G] at this
end
end Go.Sim
end
namespace Go.Sim
open Go Go.Instr Go.Conc
def Yp (P' P:Program) (c g:Nat→Bool) (Fz:Nat→Prop) (bs bt:Array Obj):Cfg:={ C:=fun f=>c f=true,D:=fun f x=>Std P' P f∧zH P c g x=true,Fz:=Fz,lim:=0,ng:=P.globals.size,bs:=bs,bt:=bt }
section
variable {K:Cfg} {R:Nat→Nat→Prop} {w w' w1:World}
theorem W0.low (h:W0 K R w w') {b c:Nat} (hr:R b c):c < w'.heap.size:=by
 obtain ⟨_,_,_,h2,_⟩:=h.obj b c hr
 exact (Array.getElem?_eq_some_iff.1 h2).1
theorem W0.lowS (h:W0 K R w w') {b c:Nat} (hr:R b c):b < w.heap.size:=by
 obtain ⟨_,_,h1,_,_⟩:=h.obj b c hr
 exact (Array.getElem?_eq_some_iff.1 h1).1
theorem W0.grow (h:W0 K R w w') (e:∀c,c < w'.heap.size→w1.heap[c]? = w'.heap[c]?) (hs:w'.heap.size≤w1.heap.size):W0 K R w w1 :=
 ⟨h.fn,h.inj,fun b c hr=>let ⟨o,o',h1,h2,h3⟩:=h.obj b c hr;⟨o,o',h1,(e c (h.low hr)).trans h2,h3⟩,h.fz,h.glob,h.big,Nat.le_trans h.big' hs⟩
theorem W0.growS (h:W0 K R w w') (e:∀b,b < w.heap.size→w1.heap[b]? = w.heap[b]?) (hs:w.heap.size≤w1.heap.size):W0 K R w1 w' :=
 ⟨h.fn,h.inj,fun b c hr=>let ⟨o,o',h1,h2,h3⟩:=h.obj b c hr;⟨o,o',(e b (h.lowS hr)).trans h1,h2,h3⟩,fun b hb=>let ⟨c,t,hi,h1,h2⟩:=h.fz b hb;⟨c,t,hi,(e b (Array.getElem?_eq_some_iff.1 h1).1).trans h1,h2⟩,h.glob,Nat.le_trans h.big hs,h.big'⟩
end
section
variable {P' P:Program} {K Ks:Cfg} {c g:Nat→Bool} {bs:Bs} {Fin:Goroutine→World→Prop}
def Or2 (R P2:Nat→Nat→Prop) (b c:Nat):Prop:=R b c∨P2 b c
theorem phase_end {S:Nat→Prop} {R P2:Nat→Nat→Prop} {q:Goroutine} {w w':World} {gs:Array Goroutine} {sl:Option (Nat×Nat)} {t:Trace} (hM:MS K Ks P' P g S R q w w')
 {cf cf':Frame} {cr cr':List Frame} (hk:FsR K P' P bs R (cf :: cr) (cf' :: cr')) {v v':Value} {w3 w3':World} (hDn:Dn Ks P' g Fin q w (G (cf.finish v) cr) w3) (hne:q≠G (cf.finish v) cr)
 (hs:∀b,b < w.heap.size→w3.heap[b]? = w.heap[b]?) (hsz:w.heap.size≤w3.heap.size) (hs':∀c,c < w'.heap.size→w3'.heap[c]? = w'.heap[c]?) (hsz':w'.heap.size≤w3'.heap.size)
 {N:Nat} {gs1:Array Goroutine} {sl1:Option (Nat×Nat)} {t1:Trace} {S1:Nat→Prop} (hrun:runNT P N (crowd gs w' sl) t=(.next (crowd gs1 w3' sl1),t1)) (hR:RM P S1 gs1 (G (cf'.finish v') cr') w3' t1)
 (hSS:∀c,S1 c→S c∨w'.heap.size≤c) (hSl:∀c,S1 c→c < w3'.heap.size) (ht:w3'.tape=w'.tape) (ho:w3'.os=w'.os) (hp:w3'.output=w'.output)
 (hnew:∀b c,P2 b c→w.heap.size≤b∧w'.heap.size≤c∧¬ S1 c∧∃o o',w3.heap[b]? = some o∧w3'.heap[c]? = some o'∧OR K.C K.D (Or2 R P2) o o') (hfn:∀b c d,P2 b c→P2 b d→c=d) (hinj:∀b c d,P2 b d→P2 c d→b=c)
 (hv:VR K.C (Or2 R P2) v v') :
 ∃(N:Nat) (S1:Nat→Prop) (R1:Nat→Nat→Prop) (q1:Goroutine) (w1:World) (gs1:Array Goroutine) (a1:Goroutine) (w1':World) (sl1:Option (Nat×Nat)) (t1:Trace),
  runNT P N (crowd gs w' sl) t=(.next (crowd gs1 w1' sl1),t1)∧yB P' q w q1 w1∧GR K P' P bs R1 q1 a1∧MS K Ks P' P g S1 R1 q1 w1 w1'∧RM P S1 gs1 a1 w1' t1∧Ext0 K R R1 w w' w1 w1'∧∀c,S1 c→S c∨w'.heap.size≤c:=by
 have hle:∀b c,R b c→Or2 R P2 b c:=fun _ _ h=>.inl h
 have hk':=hk.mono hle
 have hF:=hk'.head.finish hv
 have hX:Ext0 K R (Or2 R P2) w w' w3 w3':=⟨hle,fun b c h=>h.imp id fun h=>⟨(hnew b c h).1,(hnew b c h).2.1⟩,hsz,hsz',fun c hc _=>hs' c hc,ht,ho,hp,fun b _ hb=>hs b hb⟩
 obtain ⟨_,_,_,hn,_⟩:=id hDn.self
 refine ⟨N,S1,Or2 R P2,_,w3,gs1,_,w3',sl1,t1,hrun,hDn.desc.below1 hne,.mk hF (GR.pop hk' hF (yG _ _)),⟨⟨?_,?_,?_,?_,?_,Nat.le_trans hM.w0.big hsz,Nat.le_trans hM.w0.big' hsz'⟩,hn,hDn.self,fun n h=>.inl (hM.glob n h),?_,hSl,Jb hM.keep hM.w0 hX⟩,hR,hX,hSS⟩
 ·intro b c d h k
  rcases h with h | h <;> rcases k with k | k
  ·exact hM.w0.fn _ _ _ h k
  ·have:=hM.w0.lowS h;have:=(hnew _ _ k).1;omega
  ·have:=hM.w0.lowS k;have:=(hnew _ _ h).1;omega
  ·exact hfn _ _ _ h k
 ·intro b c d h k
  rcases h with h | h <;> rcases k with k | k
  ·exact hM.w0.inj _ _ _ h k
  ·have:=hM.w0.low h;have:=(hnew _ _ k).2.1;omega
  ·have:=hM.w0.low k;have:=(hnew _ _ h).2.1;omega
  ·exact hinj _ _ _ h k
 ·intro b c h
  rcases h with h | h
  ·obtain ⟨o,o',h1,h2,h3⟩:=hM.w0.obj b c h
   exact ⟨o,o',(hs b (hM.w0.lowS h)).trans h1,(hs' c (hM.w0.low h)).trans h2,h3.mono hle⟩
  ·exact (hnew b c h).2.2.2
 ·intro b hb
  obtain ⟨c,e,hi,h1,h2⟩:=hM.w0.fz b hb
  exact ⟨c,e,hi,(hs b (Array.getElem?_eq_some_iff.1 h1).1).trans h1,h2⟩
 ·intro b c h
  rcases h with h | h
  ·exact hM.w0.glob b c h
  ·have h1:=hnew b c h
   have:=hM.w0.big;have:=hM.w0.big'
   omega
 ·intro b c h hc
  rcases h with h | h
  ·rcases hSS c hc with x | x
   ·exact hM.shun b c h x
   ·have:=hM.w0.low h;omega
  ·exact (hnew b c h).2.2.1 hc
theorem qaL {bs:Bs} {S Sm:Nat→Prop} {R Rm:Nat→Nat→Prop} {q qm:Goroutine} {w w' wm wm':World} {gs gsm:Array Goroutine} {sl slm:Option (Nat×Nat)} {t tm:Trace} {N0:Nat} (hrun:runNT P N0 (crowd gs w' sl) t=(.next (crowd gsm wm' slm),tm)) (hb:yB P' q w qm wm) (hX:Ext0 K R Rm w w' wm wm') (hSS:∀c,Sm c→S c∨w'.heap.size≤c)
 (h:∃(N:Nat) (S1:Nat→Prop) (R1:Nat→Nat→Prop) (q1:Goroutine) (w1:World) (gs1:Array Goroutine) (a1:Goroutine) (w1':World) (sl1:Option (Nat×Nat)) (t1:Trace),
   runNT P N (crowd gsm wm' slm) tm=(.next (crowd gs1 w1' sl1),t1)∧yB P' qm wm q1 w1∧GR K P' P bs R1 q1 a1∧MS K Ks P' P g S1 R1 q1 w1 w1'∧RM P S1 gs1 a1 w1' t1∧Ext0 K Rm R1 wm wm' w1 w1'∧∀c,S1 c→Sm c∨wm'.heap.size≤c) :
 ∃(N:Nat) (S1:Nat→Prop) (R1:Nat→Nat→Prop) (q1:Goroutine) (w1:World) (gs1:Array Goroutine) (a1:Goroutine) (w1':World) (sl1:Option (Nat×Nat)) (t1:Trace),
  runNT P N (crowd gs w' sl) t=(.next (crowd gs1 w1' sl1),t1)∧yB P' q w q1 w1∧GR K P' P bs R1 q1 a1∧MS K Ks P' P g S1 R1 q1 w1 w1'∧RM P S1 gs1 a1 w1' t1∧Ext0 K R R1 w w' w1 w1'∧∀c,S1 c→S c∨w'.heap.size≤c:=by
 obtain ⟨N,S1,R1,q1,w1,gs1,a1,w1',sl1,t1,r1,r2,r3,r4,r5,r6,r7⟩:=h
 exact ⟨N0+N,S1,R1,q1,w1,gs1,a1,w1',sl1,t1,yf hrun r1,Desc.below_or hb r2.desc,r3,r4,r5,hX.trans r6,fun c hc=>(r7 c hc).elim (hSS c) fun h=>.inr (Nat.le_trans hX.size' h)⟩
theorem Bs.ne (bs:Bs):bs.src≠[]:=fun e=>by
 have:=bs.bad
 rw [e] at this
 cases this
end
end Go.Sim
namespace Go.Proofs.YtnpjncjnmpfgpaaGreatDoor
open Go Go.ChangeShapes
section
variable {H:Type} {enc:TypeId×Value→H} {P:Program} {w w':World}
theorem qfw (hh:∀k,k < w.heap.size→w'.heap[k]? = w.heap[k]?) {p:MemPlace} (hp:p.block < w.heap.size):w.sameAt w' p:=by
 cases p with
 | cell b o =>
   have:=hh b hp
   show w'.cell? ⟨b,o,none⟩=w.cell? ⟨b,o,none⟩
   unfold World.cell?
   simp only [this]
 | map b=>exact hh b hp
theorem Yh {T:TypeId→Prop} (K:Kids P T) (hz:∀t e,T t→P.underlying t=some (.slice e)→0 < P.cellsOf e) (hh:∀k,k < w.heap.size→w'.heap[k]? = w.heap[k]?):∀{ts:List TypeId} {vs:List Value} {ds:List (DataW H)} {ps:List MemPlace},
 (∀t∈ts,T t)→DataW.TrodAll enc P w 0 (fun _=>true) true ts vs ds ps→DataW.TrodAll enc P w' 0 (fun b=>decide (b < w.heap.size)) true ts vs ds ps
 | [],_,_,_,_,h=>by
   obtain ⟨rfl,rfl,rfl⟩:=trodAll_nil h
   rfl
 | t :: ts,_,_,_,hT,h=>by
   obtain ⟨v,vs1,d,ds1,a,b,rfl,rfl,rfl,⟨n,h1⟩,h2⟩:=trodAll_cons h
   refine ⟨a,b,⟨n,?_⟩,Yh K hz hh (fun u hu=>hT u (List.mem_cons_of_mem _ hu)) h2,rfl⟩
   have hl:=fun p hp=>DataW.trod_lt n _ _ _ h1 p hp
   have h3:=DataW.trod_respare (spare':=fun b=>decide (b < w.heap.size)) K hz n _ _ _ (hT t List.mem_cons_self) h1 (fun p hp=>by simpa using hl p hp)
   exact DataW.trod_carry n _ _ _ h3 fun p hp=>qfw hh (hl p hp)
end
end Go.Proofs.YtnpjncjnmpfgpaaGreatDoor
namespace Go.Load
open Go Go.RowKit
def set6 (w:World) (b:Nat) (v0 v1 v2 v3 v4 v5:Value):World:=(((((w.setCell ⟨b,0,none⟩ v0).setCell ⟨b,1,none⟩ v1).setCell ⟨b,2,none⟩ v2).setCell ⟨b,3,none⟩ v3).setCell ⟨b,4,none⟩ v4).setCell ⟨b,5,none⟩ v5
theorem load_6 {P:Program} {ty:TypeId} {w:World} {b:Nat} {v0 v1 v2 v3 v4 v5:Value} (hA:∀w,(isAgg ty).run P w=.ok true w) (hS:∀w,(Go.sizeOf ty).run P w=.ok 6 w) (k0:w.cell? ⟨b,0,none⟩=some v0) (k1:w.cell? ⟨b,1,none⟩=some v1)
 (k2:w.cell? ⟨b,2,none⟩=some v2) (k3:w.cell? ⟨b,3,none⟩=some v3) (k4:w.cell? ⟨b,4,none⟩=some v4) (k5:w.cell? ⟨b,5,none⟩=some v5) :
 (loadVar ty ⟨b,0,none⟩).run P w=.ok (.agg #[v0,v1,v2,v3,v4,v5]) w:=by
 unfold loadVar
 simp only [Sem.run_bind,hA,hS,Result.andThen_ok,if_true,loadCells,loadCellsFrom,run_load,Addr.add,k0,k1,k2,k3,k4,k5,Sem.run_pure,Option.isSome_none,Bool.false_eq_true,if_false,Nat.zero_add,Nat.add_zero,Nat.one_ne_zero,Nat.reduceAdd,show ¬ (2:Nat)=0 by decide,show ¬ (3:Nat)=0 by decide,show ¬ (4:Nat)=0 by decide,show ¬ (5:Nat)=0 by decide]
 rfl
theorem put6 {w:World} {b:Nat} {u0 u1 u2 u3 u4 u5:Value} (v0 v1 v2 v3 v4 v5:Value) (c0:w.cell? ⟨b,0,none⟩=some u0) (c1:w.cell? ⟨b,1,none⟩=some u1) (c2:w.cell? ⟨b,2,none⟩=some u2) (c3:w.cell? ⟨b,3,none⟩=some u3) (c4:w.cell? ⟨b,4,none⟩=some u4) (c5:w.cell? ⟨b,5,none⟩=some u5) :
 (set6 w b v0 v1 v2 v3 v4 v5).cell? ⟨b,0,none⟩=some v0∧(set6 w b v0 v1 v2 v3 v4 v5).cell? ⟨b,1,none⟩=some v1∧(set6 w b v0 v1 v2 v3 v4 v5).cell? ⟨b,2,none⟩=some v2∧(set6 w b v0 v1 v2 v3 v4 v5).cell? ⟨b,3,none⟩=some v3∧(set6 w b v0 v1 v2 v3 v4 v5).cell? ⟨b,4,none⟩=some v4∧(set6 w b v0 v1 v2 v3 v4 v5).cell? ⟨b,5,none⟩=some v5:=by
 obtain ⟨p0,p1,p2,p3,p4⟩:=put5 v0 v1 v2 v3 v4 c0 c1 c2 c3 c4
 unfold set5 at p0 p1 p2 p3 p4
 unfold set6
 exact ⟨qd (by simp) p0,qd (by simp) p1,qd (by simp) p2,qd (by simp) p3,qd (by simp) p4,ze (qy (qy (qy (qy (qy (qA c5))))))⟩
theorem ret_c6 {P:Program} {fn:Func} {R:Ending→World→Prop} {ts:Array Value} {p:Tmp} {ty:TypeId} {w1:World} {b:Nat} {u0 u1 u2 u3 u4 u5 v0 v1 v2 v3 v4 v5:Value} (h:fn.results=#[.cell p ty]) (hA:∀w,(isAgg ty).run P w=.ok true w) (hS:∀w,(Go.sizeOf ty).run P w=.ok 6 w)
 (hp:ts.getD p undef=.pointer (some ⟨b,0,none⟩)) (c0:w1.cell? ⟨b,0,none⟩=some u0) (c1:w1.cell? ⟨b,1,none⟩=some u1) (c2:w1.cell? ⟨b,2,none⟩=some u2) (c3:w1.cell? ⟨b,3,none⟩=some u3) (c4:w1.cell? ⟨b,4,none⟩=some u4) (c5:w1.cell? ⟨b,5,none⟩=some u5)
 (hR:R (.returned (.agg #[v0,v1,v2,v3,v4,v5])) (set6 w1 b v0 v1 v2 v3 v4 v5)) :
 bodyPost P fn R .ret ⟨ts,[]⟩ ((((((w1.setCell ⟨b,0,none⟩ v0).setCell ⟨b,1,none⟩ v1).setCell ⟨b,2,none⟩ v2).setCell ⟨b,3,none⟩ v3).setCell ⟨b,4,none⟩ v4).setCell ⟨b,5,none⟩ v5) :=
 have hp6:=put6 v0 v1 v2 v3 v4 v5 c0 c1 c2 c3 c4 c5
 bodyPost_ret (QQ h hp (load_6 hA hS hp6.1 hp6.2.1 hp6.2.2.1 hp6.2.2.2.1 hp6.2.2.2.2.1 hp6.2.2.2.2.2)) rfl hR
theorem Below.set6 {B:Nat} {w w1:World} {b:Nat} {v0 v1 v2 v3 v4 v5:Value} (h:Below B w w1) (hb:B≤b):Below B w (Load.set6 w1 b v0 v1 v2 v3 v4 v5):=(((((h.setCell hb _).setCell hb _).setCell hb _).setCell hb _).setCell hb _).setCell hb _
end Go.Load
