/-
  Lemmas about the program and the machine (SimOnly to LoadU16), upon which the last text of this claim rests; no condition.
-/
import Derived.Conc.Beside
import Derived.Conc.CompanyWords
import Derived.Conc.Own4
import Derived.Conc.CrowdRun
import Derived.Conc.TokenTrace
import Derived.Conc.CrowdComm
import Derived.Conc.AppendEvents3
import Derived.Conc.SmallLaws
import Derived.Conc.WgWords
import Derived.Conc.CompanyDraw
import Derived.Conc.TokenWalk
import Derived.Test.YtjkenojgabamiaaGreatDoorChecked
import Derived.Orders
import Derived.ReadAgain
import Derived.ChangeReads
import Derived.ChangeOld
import Derived.ChangeShapes
import Derived.WalkKit
import Derived.WalkSmall
import Derived.Test.YtjkenojgabamiaaGreatDoorD01
set_option linter.unusedSimpArgs false
set_option linter.unusedVariables false
namespace Go.Sim
open Go Go.Instr
def qC (s:GStep):Prop:=(∃g1 w1 es,s=.go g1 w1 es)∨∃o w1 es,s=.ended o w1 es
theorem qC.after {es:Array Event} {s:GStep} (h:qC s):qC (GStep.after es s):=by
 rcases h with ⟨_,_,_,rfl⟩ | ⟨_,_,_,rfl⟩
 ·exact .inl ⟨_,_,_,rfl⟩
 ·exact .inr ⟨_,_,_,rfl⟩
theorem qD {g:Goroutine} {w:World} {es:Array Event}:qC (.go g w es):=.inl ⟨_,_,_,rfl⟩
theorem qM {o:Outcome} {w:World} {es:Array Event}:qC (.ended o w es):=.inr ⟨_,_,_,rfl⟩
section
variable {K:Cfg} {P' P:Program} {R:Nat→Nat→Prop} {Sp:FuncId→Prop} {c g:Nat→Bool} {bs:Bs}
theorem QD {w w':World} {a:Frame} {k:List Frame} {s s':Sem Next} {n:Nat} (hn:n=(s.run P' w).w.drawn) (hw:WR (K.at n) R w w') (h:xV (K.at n) P' P R s s' (fun R1 x y=>NextR (K.at n) R1 x y)):qC (stepG.apply P' true a k none s w):=by
 subst hn
 have kh:=fun x y e=>((h w w' hw).2.1 x y e)
 have kv:=fun x y e=>((h w w' hw).1 x y e)
 unfold stepG.apply
 simp only [Sem.runT_eq,if_true]
 refine qC.after ?_
 cases e:s.run P' w with
 | halt x y =>
   have kh:=(kh x y e (by rw [e];exact Nat.le_refl _)).2
   cases x with
   | panic v=>exact qD
   | stuck m=>exact qM
   | unsupported q =>
     cases q <;> first
      | exact qM
      | (simp [yZ] at kh;done)
   | _=>simp [yZ] at kh
 | ok n w2 =>
   obtain ⟨R1,b,w1',e1,_,_,_,hq,_⟩:=kv n w2 e (by rw [e];rfl)
   cases hq <;> exact qD
theorem qbU {fn:FuncId} {ts:Array Value} {td:List Item} {ds:List Deferred} {l:Nat} {k k':List Frame} {w:World} (hk:KR K P' P bs R (some l) k k') {j:Option Code} {m:Bool} {s:String} {es:Array Event} :
 qC (GStep.after es (match (Instr.endRound l j).run P' w with
     | .ok v w=>doReturn P' m { fn,tmps:=ts,todo:=td,defers:=ds,mode:=.run,kind:=.normal,roundOf:=some l } k none v w
     | .halt _ w=>.ended (.stuck "range over a function: no such loop" s) w)):=by
 refine qC.after ?_
 cases e:(Instr.endRound l j).run P' w with
 | halt x y=>exact qM
 | ok v wa =>
   cases hk with
   | base h=>cases h
   | over hk=>cases hk <;> exact qD
theorem qcY (Z:Cov K P' P c g Sp) {w w':World} (hw:W0 K R w w') {a a':Frame} {k k':List Frame} (ha:FR K P' P R a a') (hk:KR K P' P bs R a.roundOf k k') (hm:a.mode=.run) (hg:∀n,g n=true→R n n) {m:Bool} (hT:∀i q,w'.tape (w'.drawn+i) q=w.tape (w.drawn+i) q) :
 qC (stepG.exec P' m true a k none w):=by
 have hwn:∀n,WR (K.at n) R w w':=fun n=>hw.wr n fun i q _=>hT i q
 obtain ⟨fn,ts,td,ds,mode,kind,ro⟩:=a
 obtain ⟨fn',ts',td',ds',mode',kind',ro'⟩:=a'
 have ha':=ha
 obtain ⟨h1,h2,h3,h4,h5,h6,h7,h8,h9⟩:=ha
 simp only at h1 h2 h3 h4 h5 h6 h7 h8 h9 hk hm
 subst h1 hm h7 h8
 have h6:mode'=.run:=by rcases h6 with ⟨_,h⟩ | ⟨h,_⟩;exact h;cases h
 subst h6
 have dc:∀{x:Code},K.D fn' x→zz P c g x=true:=fun h=>((Z.hD _ _).1 h).2
 have cd:∀{x:Code},zz P c g x=true→K.D fn' x:=fun h=>(Z.hD _ _).2 ⟨h2,h⟩
 have ro9:∀{R1:Nat→Nat→Prop},(∀b c,R b c→R1 b c)→(ro=none∧ro'=none)∨∃l l',ro=some l∧ro'=some l'∧R1 l l':=fun h=>h9.imp (fun x=>x) fun ⟨l,l',p,q,r⟩=>⟨l,l',p,q,h _ _ r⟩
 unfold stepG.exec
 have lv:∀(j:Option Code) {es:Array Event} {s:String} {td:List Item},ro.isSome→∀l,ro=some l→qC (GStep.after es (match (Instr.endRound l j).run P' w with
       | .ok v w=>doReturn P' m { fn:=fn',tmps:=ts,todo:=td,defers:=ds,mode:=.run,kind:=.normal,roundOf:=some l } k none v w
       | .halt _ w=>.ended (.stuck "range over a function: no such loop" s) w)):=fun j es s td _ l e=>by
  subst e;exact qbU hk
 cases h4 with
 | nil =>
   cases ro with
   | none=>exact qD
   | some l =>
     simp only [Sem.runT_eq]
     exact lv none rfl l rfl
 | @cons _ _ kk kk' hi hj =>
   cases hi with
   | inBlock id=>exact qD
   | inLoop b hb=>exact qD
   | inScope b=>exact qD
   | inRange hl=>exact qM
   | beginRound =>
     refine QD (P:=P) (K:=K) rfl (hwn _) (s':=do ro'.elim (Go.stuck "beginRound: no round") Instr.beginRound;Pure.pure .skip) ?_
     rcases h9 with ⟨rfl,rfl⟩ | ⟨l,l',rfl,rfl,hl⟩
     ·exact qg.l qg.halted
     ·exact (qg.beginRound hl).u.l
   | @endRange l l' hl =>
     simp only [Sem.runT_eq]
     refine qC.after ?_
     cases e:(Instr.endLoop l).run P' w with
     | halt x y=>cases x <;> first | exact qM | exact qD
     | ok v wa=>exact qD
   | inRegion id ops t hr =>
     cases t with
     | nil=>exact qD
     | cons i rest =>
       simp only
       by_cases hwt:((ops[i]?).map (Region.wanted · (yielded ops ts))).getD false=true
       ·rw [if_pos hwt]
        cases ho:ops[i]? with
        | none=>rw [ho] at hwt;simp at hwt
        | some o =>
          have hop:opB P c g o.op=true:=by
           have:=dc hr
           simp only [zz,Array.all_eq_true'] at this
           exact this o (Array.mem_of_getElem? ho)
          have hnd:∀cl,o.op≠.defer cl:=fun cl e=>by rw [e] at hop;simp [opB] at hop
          unfold stepG.oper
          simp only [Frame.oper?,ho]
          split
          ·rename_i _ _ e;exact absurd e (hnd _)
          ·exact (fun n hn=>QD (P:=P) (K:=K) (n:=n) hn (hwn n) (qg.execOp (K:=K.at n) (P':=P') (P:=P) (R:=R) (Z.at n).toProgs Z.hc o hop (fun hR x hxo=>ha'.eval Z.hc hg hR x hxo) (fun v=>rfl))) _ rfl
       ·rw [if_neg hwt]
        exact qD
   | code x hx =>
     have hc:=dc hx
     cases x with
     | skip=>exact qD
     | label n=>exact qD
     | ret =>
       cases ro with
       | none=>exact qD
       | some l =>
         simp only [Sem.runT_eq]
         exact lv (some .ret) rfl l rfl
     | exit id =>
       simp only
       cases e:Go.exitTo id kk with
       | some j=>exact qD
       | none =>
         cases ro with
         | none=>exact qM
         | some l =>
           simp only [Sem.runT_eq,Option.elim]
           exact lv (some (.exit id)) rfl l rfl
     | seq x y=>exact qD
     | cond o x y =>
       simp only
       generalize Frame.eval { fn:=fn',tmps:=ts,todo:=_,defers:=ds,mode:=.run,kind:=.normal,roundOf:=ro } o=v
       cases v <;> first
        | exact qD
        | exact qM
     | block id b=>exact qD
     | loop b=>exact qD
     | scope b=>exact qD
     | region id ops draw =>
       cases draw with
       | false=>exact qD
       | true =>
         simp only [Bool.not_true,Bool.false_eq_true,if_false]
         cases e:(choose (.order fn' id)).run P' w with
         | halt x y=>exact qM
         | ok t wa=>exact qD
     | rangeFunc f ps x y =>
       simp only [zz,Bool.and_eq_true] at hc
       simp only [Sem.runT_eq]
       refine qC.after ?_
       cases e:(Instr.enterLoop fn' ts ps x y ro).run P' w with
       | halt x y=>exact qM
       | ok lm wa =>
         obtain ⟨l,mark⟩:=lm
         dsimp only
         have hEL:=fun n=>qg.enterLoop (K:=K.at n) (P':=P') (P:=P) h3 ps (cd hc.1.2) (cd hc.2) h9
         obtain ⟨n,hn⟩:∃n,n=(Sem.run P' (do
          let d ← resolve (Frame.eval { fn:=fn',tmps:=ts,todo:=.inRangeFunc l :: kk,defers:=mark ++ ds,mode:=.run,kind:=.normal,roundOf:=ro }) { callee:=.value f,args:=#[.const (.func (.yield l) #[] #[])],argTypes:=#[] } 0
          invoke d.target d.args) wa).w.drawn:=⟨_,rfl⟩
         obtain ⟨R1,lm',wa',e1,e2,e3,e4,⟨e5,e5'⟩,e6⟩:=(hEL n w w' (hwn n)).1 _ _ e (hn▸zh _ _ _)
         refine QD (P:=P) (K:=K) hn e2 (s':=do
          let d ← resolve (Frame.eval { fn:=fn',tmps:=ts',todo:=.inRangeFunc lm'.1 :: kk',defers:=lm'.2 ++ ds',mode:=.run,kind:=.normal,roundOf:=ro' }) { callee:=.value f,args:=#[.const (.func (.yield lm'.1) #[] #[])],argTypes:=#[] } 0
          invoke d.target d.args) ?_
         refine qg.l (qg.invokeValue (Z.at n).toProgs ((ha'.mono e3.le).eval Z.hc (fun n h=>e3.le _ _ (hg n h)) (fun _ _ h=>h) f hc.1.1) ?_)
         simp only [List.map_toArray,List.map_cons,List.map_nil,Frame.eval]
         exact AR.one (.yld e5)
     | _=>simp [zz] at hc
theorem qeP (Z:Cov K P' P c g Sp) {w w':World} (hw:W0 K R w w') (hg:∀n,g n=true→R n n) {q q':Goroutine} (hq:GR K P' P bs R q q') (hT:∀i x,w'.tape (w'.drawn+i) x=w.tape (w.drawn+i) x) {m:Bool}:qC (stepG P' m q w):=by
 cases hq with
 | @mk a a' k k' ha hk =>
   have ha0:=ha
   obtain ⟨fn,ts,td,ds,mode,kind,ro⟩:=a
   obtain ⟨fn',ts',td',ds',mode',kind',ro'⟩:=a'
   rcases ha.mode with ⟨h,h'⟩ | ⟨h,h'⟩
   ·simp only at h
    subst h
    exact qcY Z hw ha hk rfl hg hT
   ·obtain ⟨h1,h2,h3,h4,h5,h6,h7,h8,h9⟩:=ha
    simp only at h h1 h2 h3 h4 h5 h6 h7 h8 h9 hk
    subst h h7
    show qC (unwind P' m _ k none w)
    unfold unwind
    cases h5 with
    | cons hd1 hds =>
      cases hd1 with
      | @collected r r' hr =>
        simp only [Sem.runT_eq]
        refine qC.after ?_
        cases e:(Instr.takeDeferred r).run P' w with
        | halt x y=>exact qM
        | ok v wa=>exact qD
    | nil =>
      obtain ⟨F,f1,f2,_⟩:=h2
      simp only [f1,Sem.runT_eq]
      refine qC.after ?_
      cases e:(Go.results F ts).run P' w with
      | halt x y=>cases x <;> exact qM
      | ok v wa =>
        cases hk with
        | base _ =>
          have hb:=bs.bad
          generalize bs.src=l at hb
          cases hb <;> exact qD
        | over hk =>
          cases hk with
          | one _ _=>exact qD
          | cons _ _=>exact qD
theorem bad_only {P:Program} {q:Goroutine} {w:World} (h:Bad q):qC (stepG P true q w):=by
 cases h with
 | @bottom a ch hm hd =>
   obtain ⟨fn,tmps,todo,defers,mode,kind,ro⟩:=a
   simp only at hm hd
   subst hm hd
   have:∃o w1 es,stepG P true { frame:={ fn:=fn,tmps:=tmps,todo:=todo,defers:=c0.defers,mode:=.panicking ch,kind:=kind,roundOf:=ro },callers:=[],status:=.running,dying:=none } w=.ended o w1 es:=⟨_,_,_,rfl⟩
   exact .inr this
 | @up a k ch hm hd hk =>
   obtain ⟨fn,tmps,todo,defers,mode,kind,ro⟩:=a
   simp only at hm hd
   subst hm
   show qC (unwind P true _ k none w)
   unfold unwind
   cases defers with
   | cons d ds =>
     obtain ⟨r,rfl⟩:=hd d (by simp)
     simp only [Sem.runT_eq]
     refine qC.after ?_
     cases e:(Instr.takeDeferred r).run P w with
     | halt x y=>exact qM
     | ok v wa=>exact qD
   | nil =>
     simp only
     split
     ·exact qM
     ·cases hk <;> exact qD
theorem JM {P:Program} {v:Value} {w:World}:∃o w1 es,stepG P true { frame:=c0.finish v,callers:=[],status:=.running,dying:=none } w=.ended o w1 es:=⟨_,_,_,rfl⟩
end
def jL (P:Program) (f:FuncId) (args:Array Value) (cs:List Frame):Goroutine:={ frame:=Frame.enter P f args .normal,callers:=cs,status:=.running,dying:=none }
def FinP (P':Program) (Post:Value→World→Prop) (q:Goroutine) (w:World):Prop :=
 ∃v fn,P'.funcs[q.frame.fn]? = some fn∧(∀t,(Go.results fn q.frame.tmps).run P' (w.tp t)=.ok v (w.tp t))∧∀t,Post v (w.tp t)
theorem FinP.tp {P':Program} {Post:Value→World→Prop} {q:Goroutine} {w:World} (t:Nat→Question→Nat) (h:FinP P' Post q w):FinP P' Post q (w.tp t):=h
theorem qbe {fr fr':Frame} {cs cs':List Frame} {w w':World} (h:lone fr cs w=lone fr' cs' w'):fr=fr'∧cs=cs'∧w=w':=by
 unfold lone at h
 simp only [Machine.mk.injEq,Array.mk.injEq,List.cons.injEq,Goroutine.mk.injEq,and_true] at h
 obtain ⟨h1,h2,h3⟩:=h
 exact ⟨h2,h3,h1⟩
section
variable {K:Cfg} {P':Program} {c g:Nat→Bool}
theorem qeF {P:Program} {fr fr':Frame} {cs cs':List Frame} {w w':World} {es:Array Event} (h:stepG P true { frame:=fr,callers:=cs,status:=.running,dying:=none } w=.go { frame:=fr',callers:=cs',status:=.running,dying:=none } w' es) :
 step P (lone fr cs w)=.next (lone fr' cs' w'):=step_lone_go (by rw [h];rfl)
theorem YX {P:Program} {fr:Frame} {cs:List Frame} {w w':World} {o:Outcome} {es:Array Event} (h:stepG P true { frame:=fr,callers:=cs,status:=.running,dying:=none } w=.ended o w' es) :
 step P (lone fr cs w)=.ended o w':=step_lone_ended (by rw [h];rfl)
theorem XD (Z:Cov K P' P' c g (fun _=>False)) {Post:Value→World→Prop} (hP:∀v w t,Post v w→Post v (w.tp t)) {fr':Frame} {w':World} {v:Value} {fn:Func}
 (h1:fr'.mode=.returning) (h2:fr'.defers=[]) (h3:P'.funcs[fr'.fn]? = some fn) (h4:(Go.results fn fr'.tmps).run P' w'=.ok v w') (h5:Post v w') :
 ∀(n:Nat) (fr:Frame) (cs:List Frame) (w:World),(YH K P' g { frame:=fr,callers:=cs,status:=.running,dying:=none } w∨(Bad { frame:=fr,callers:=cs,status:=.running,dying:=none }∧yE w)) →
  runN P' n (lone fr cs w)=.next (lone fr' [c0] w')→Reach P' true (FinP P' Post) { frame:=fr,callers:=cs,status:=.running,dying:=none } w:=by
 intro n
 induction n with
 | zero =>
   intro fr cs w hI hr
   simp only [runN,Stepped.next.injEq] at hr
   obtain ⟨rfl,rfl,rfl⟩:=qbe hr
   rcases hI with hI | ⟨hb,_⟩
   ·refine .fin ⟨h1,h2,rfl⟩ ⟨v,fn,h3,fun t=>?_,fun t=>hP _ _ _ h5⟩
    obtain ⟨R,hg,hw,_,_⟩:=hI
    cases hg with
    | mk ha _ =>
      have hw':WR (K.at w.drawn) R w w:=hw.wr _ fun _ _ _=>rfl
      have:=(qg.results (K:=K.at w.drawn) (P':=P') (P:=P') Z.toSame fn ha.tmps w w hw').2.2 (by rw [h4];exact Nat.le_refl _) t (by rw [h4];exact fun i q a b=>absurd (Nat.lt_of_le_of_lt a b) (Nat.lt_irrefl _))
      rw [this,h4]
      rfl
   ·exact absurd ⟨h1,h2,rfl⟩ hb.notLeaves
 | succ n ih =>
   intro fr cs w hI hr
   simp only [runN] at hr
   have ended:∀{o w1 es},stepG P' true { frame:=fr,callers:=cs,status:=.running,dying:=none } w=.ended o w1 es→False:=fun h=>by
    rw [YX h] at hr;cases hr
   have on:∀{g1:Goroutine} {w1:World} {es},stepG P' true { frame:=fr,callers:=cs,status:=.running,dying:=none } w=.go g1 w1 es→(YH K P' g g1 w1∨(Bad g1∧yE w1))→Reach P' true (FinP P' Post) g1 w1:=fun h hI1=>by
    rename_i g1 w1 es
    obtain ⟨f1,k1,rfl⟩:∃f1 k1,g1={ frame:=f1,callers:=k1,status:=.running,dying:=none }:=by
     rcases hI1 with ⟨R,hg,_⟩ | ⟨hb,_⟩
     ·cases hg;exact ⟨_,_,rfl⟩
     ·cases hb <;> exact ⟨_,_,rfl⟩
    rw [qeF h] at hr
    exact ih f1 k1 w1 hI1 hr
   rcases hI with hI | ⟨hb,hn⟩
   ·by_cases hl:Leaves { frame:=fr,callers:=cs,status:=.running,dying:=none }
    ·exfalso
     obtain ⟨l1,l2,l3⟩:=hl
     simp only at l1 l2 l3
     subst l3
     obtain ⟨R,hg,_⟩:=hI
     cases hg with
     | mk ha _ =>
       obtain ⟨F,f1,_,_⟩:=ha.std
       have hk:=ha.kind
       obtain ⟨fn0,ts,td,ds,mode,kind,ro⟩:=fr
       simp only at l1 l2 hk f1
       subst l1 l2 hk
       cases e:(Go.results F ts).run P' w with
       | halt x y =>
         have hs:∃o w1 es,stepG P' true { frame:={ fn:=fn0,tmps:=ts,todo:=td,defers:=[],mode:=.returning,kind:=.normal,roundOf:=ro },callers:=[c0],status:=.running,dying:=none } w=.ended o w1 es:=by
          unfold stepG
          dsimp only
          unfold unwind
          simp only [f1,Sem.runT_eq,e]
          cases x <;> exact ⟨_,_,_,rfl⟩
         obtain ⟨_,_,_,hs⟩:=hs
         exact ended hs
       | ok v1 wa =>
         have hs:∃es,stepG P' true { frame:={ fn:=fn0,tmps:=ts,todo:=td,defers:=[],mode:=.returning,kind:=.normal,roundOf:=ro },callers:=[c0],status:=.running,dying:=none } w=.go { frame:=c0.finish v1,callers:=[],status:=.running,dying:=none } wa es:=by
          unfold stepG
          dsimp only
          unfold unwind
          simp only [f1,Sem.runT_eq,e]
          exact ⟨_,rfl⟩
         obtain ⟨_,hs2⟩:=hs
         rw [qeF hs2] at hr
         cases n with
         | zero =>
           simp only [runN,Stepped.next.injEq] at hr
           have:=(qbe hr).2.1
           cases this
         | succ n =>
           simp only [runN] at hr
           obtain ⟨o,w1,es,hb⟩:=JM (P:=P') (v:=v1) (w:=wa)
           rw [YX hb] at hr
           cases hr
    ·obtain ⟨R,hg,hw,hn,hR⟩:=id hI
     rcases qeP Z hw hR hg (fun _ _=>rfl) (m:=true) with ⟨g1,w1,es,hs⟩ | ⟨o,w1,es,hs⟩
     ·refine .step hl hs (on hs ?_)
      by_cases hb:Bad g1
      ·have hw':WR (K.at w1.drawn) R w w:=hw.wr _ fun _ _ _=>rfl
       exact .inr ⟨hb,(jf (m':=true) (Z.at _) hn hw' hR (hg.at _) hl hs rfl).1⟩
      ·exact .inl ((hI.turn Z hl w.tape hs).2 hb)
     ·exact (ended hs).elim
   ·rcases bad_only (P:=P') (w:=w) hb with ⟨g1,w1,es,hs⟩ | ⟨o,w1,es,hs⟩
    ·exact .step hb.notLeaves hs (on hs (.inr (hb.step hn hs)))
    ·exact (ended hs).elim
theorem LT.of_calls (Z:Cov K P' P' c g (fun _=>False)) {f:FuncId} {args:Array Value} {w:World} {Post:Value→World→Prop} (hP:∀v w t,Post v w→Post v (w.tp t))
 (hS:YH K P' g (jL P' f args [c0]) w) (hC:∀t,Calls P' f args (w.tp t) fun e w'=>∃v,e=.returned v∧Post v w'):LT P' true (FinP P' Post) (jL P' f args [c0]) w:=by
 refine LT.of_reach Z (fun q w t h=>h.tp t) hS fun t=>?_
 obtain ⟨e,w',fr,⟨v,rfl,hp⟩,⟨n,hn⟩,_,hl⟩:=hC t [c0]
 obtain ⟨l1,l2,_,fn,l3,l4⟩:=hl
 obtain ⟨R,hg,hw,hn0,hR⟩:=hS
 exact XD Z hP l1 l2 l3 l4 hp n _ _ _ (.inl ⟨R,hg,⟨hw.fn,hw.inj,hw.obj,hw.fz,hw.glob,hw.big,hw.big'⟩,hn0,hR⟩) hn
end
end Go.Sim
section
namespace Go.Sim
open Go Go.Instr Go.Conc
open Go.ConcN (sumTo upd sumTo_upd upd_ne upd_same)
section
variable (P':Program)
inductive Desc:Goroutine→World→Goroutine→World→Prop
 | refl (q:Goroutine) (w:World):Desc q w q w
 | step {q q1 q2:Goroutine} {w w1 w2:World} (t:Nat→Question→Nat) {es:Array Event}:¬ Leaves q→stepG P' true q (w.tp t)=.go q1 w1 es→Desc q1 w1 q2 w2→Desc q w q2 w2
def yD (q:Goroutine) (w:World) (q2:Goroutine) (w2:World):Prop:=∃t q1 w1 es,¬ Leaves q∧stepG P' true q (w.tp t)=.go q1 w1 es∧Desc P' q1 w1 q2 w2
end
theorem Desc.trans {P':Program} {q q1 q2:Goroutine} {w w1 w2:World} (h:Desc P' q w q1 w1) (k:Desc P' q1 w1 q2 w2):Desc P' q w q2 w2:=by
 induction h with
 | refl=>exact k
 | step t hl hs _ ih=>exact .step t hl hs (ih k)
theorem yD.desc {P':Program} {q q1:Goroutine} {w w1:World} (h:yD P' q w q1 w1):Desc P' q w q1 w1:=let ⟨t,_,_,_,hl,hs,k⟩:=h;.step t hl hs k
theorem Desc.below_or {P':Program} {q q1 q2:Goroutine} {w w1 w2:World} (h:yD P' q w q1 w1) (k:Desc P' q1 w1 q2 w2):yD P' q w q2 w2:=let ⟨t,a,b,c,hl,hs,m⟩:=h;⟨t,a,b,c,hl,hs,m.trans k⟩
variable {P':Program} {Fin:Goroutine→World→Prop}
theorem LT.child {q q1:Goroutine} {w w1:World} {t:Nat→Question→Nat} {es:Array Event} (h:LT P' true Fin q w) (hl:¬ Leaves q) (hs:stepG P' true q (w.tp t)=.go q1 w1 es):¬ Bad q1∧LT P' true Fin q1 w1:=by
 cases h with
 | fin h _=>exact absurd h hl
 | step _ nx h1 h2 =>
   obtain ⟨es',e,hb⟩:=h1 t
   rw [hs] at e
   simp only [GStep.go.injEq] at e
   obtain ⟨e1,e2,_⟩:=e
   exact ⟨e1▸hb,e1▸e2▸h2 t⟩
theorem LT.strong {M:Goroutine→World→Prop} (hM:∀q w,LT P' true Fin q w→(∀q1 w1,yD P' q w q1 w1→M q1 w1)→M q w) {q:Goroutine} {w:World} (h:LT P' true Fin q w):M q w:=by
 have key:∀q2 w2,Desc P' q w q2 w2→M q2 w2:=by
  induction h with
  | @fin q w hl hf =>
    intro q2 w2 d
    cases d with
    | refl=>exact hM _ _ (.fin hl hf) fun q1 w1 ⟨_,_,_,_,h,_⟩=>absurd hl h
    | step _ h _ _=>exact absurd hl h
  | @step q w hl nx h1 h2 ih =>
    have kid:∀{t q1 w1 es},stepG P' true q (w.tp t)=.go q1 w1 es→∀q2 w2,Desc P' q1 w1 q2 w2→M q2 w2:=by
     intro t q1 w1 es hs q2 w2 d
     obtain ⟨es',e,_⟩:=h1 t
     rw [hs] at e
     simp only [GStep.go.injEq] at e
     obtain ⟨e1,e2,_⟩:=e
     subst e1 e2
     exact ih t q2 w2 d
    intro q2 w2 d
    cases d with
    | refl=>exact hM _ _ (.step hl nx h1 h2) fun q1 w1 ⟨t,q',w',es,_,hs,d⟩=>kid hs q1 w1 d
    | step t h hs d=>exact kid hs q2 w2 d
 exact key q w (.refl q w)
def zA (S:Nat→Prop):Loc→Prop
 | .cell a=>S a.block
 | .obj r=>S r
 | _=>False
theorem qaS {K:Cfg} {R:Nat→Nat→Prop} {S:Nat→Prop} {B:Nat} {e:Event} (h:EvR K R e) (hS:∀b c,R b c→¬ S c) (hB:∀b c,R b c→c < B):EvL (zA S) B e:=by
 cases h with
 | cell a wr b hr _=>exact evL_cell a wr (hS _ _ hr) (hB _ _ hr)
 | obj r wr b hr _ =>
   have e1:MemAct.ofEvent ⟨.obj r,wr,false⟩=.access ⟨.obj r,wr,false⟩:=by cases wr <;> rfl
   refine ⟨fun x hx hs=>?_,by simp,by simp,?_⟩
   ·simp only [e1,MemAct.touch?,Option.some.injEq] at hx
    subst hx
    exact absurd hs (hS _ _ hr)
   ·rw [e1];exact hB _ _ hr
 | room=>exact ⟨fun x hx=>by simp [MemAct.ofEvent,MemAct.touch?] at hx,by simp,by simp,trivial⟩
structure Ext0 (K:Cfg) (R R1:Nat→Nat→Prop) (w w' w1 w1':World):Prop where
 le:∀b c,R b c→R1 b c
 new:∀b c,R1 b c→R b c∨(w.heap.size≤b∧w'.heap.size≤c)
 size:w.heap.size≤w1.heap.size
 size':w'.heap.size≤w1'.heap.size
 stay:∀c,c < w'.heap.size→(∀b,R b c→K.Fz b)→w1'.heap[c]? = w'.heap[c]?
 tp':w1'.tape=w'.tape
 os':w1'.os=w'.os
 out':w1'.output=w'.output
 held:∀b,K.Fz b→b < w.heap.size→w1.heap[b]? = w.heap[b]?
theorem Ext0.refl {K:Cfg} {R:Nat→Nat→Prop} (w w':World):Ext0 K R R w w' w w':=⟨fun _ _ h=>h,fun _ _ h=>.inl h,Nat.le_refl _,Nat.le_refl _,fun _ _ _=>rfl,rfl,rfl,rfl,fun _ _ _=>rfl⟩
theorem Ext0.trans {K:Cfg} {R R1 R2:Nat→Nat→Prop} {w w' w1 w1' w2 w2':World} (h:Ext0 K R R1 w w' w1 w1') (k:Ext0 K R1 R2 w1 w1' w2 w2'):Ext0 K R R2 w w' w2 w2':=by
 refine ⟨fun b c x=>k.le _ _ (h.le _ _ x),fun b c x=>?_,Nat.le_trans h.size k.size,Nat.le_trans h.size' k.size',fun c hc hb=>?_,k.tp'.trans h.tp',k.os'.trans h.os',k.out'.trans h.out',fun b hb hlt=>(k.held b hb (Nat.lt_of_lt_of_le hlt h.size)).trans (h.held b hb hlt)⟩
 ·rcases k.new b c x with y | ⟨y1,y2⟩
  ·exact h.new b c y
  ·exact .inr ⟨Nat.le_trans h.size y1,Nat.le_trans h.size' y2⟩
 ·rw [k.stay c (Nat.lt_of_lt_of_le hc h.size') (fun b hr=>?_),h.stay c hc hb]
  rcases h.new b c hr with y | ⟨_,y⟩
  ·exact hb b y
  ·omega
theorem Ext.e0 {K:Cfg} {R R1:Nat→Nat→Prop} {w w' w1 w1':World} {t:Nat→Question→Nat} {d:Nat} (h:Ext K R R1 (w.tp t) (w'.at d) w1 w1'):Ext0 K R R1 w w' w1 w1':=⟨h.le,h.new,h.size,h.size',h.stay,h.tp',h.os',h.out',h.held⟩
structure MS (K Ks:Cfg) (P' P:Program) (g:Nat→Bool) (S:Nat→Prop) (R:Nat→Nat→Prop) (q:Goroutine) (w w':World):Prop where
 w0:W0 K R w w'
 nd:yE w
 self:YH Ks P' g q w
 glob:∀n,g n=true→R n n
 shun:∀b c,R b c→¬ S c
 low:∀c,S c→c < w'.heap.size
 keep:∀n,K.Fz n→R n n∧w.heap[n]? = K.bs[n]?∧w'.heap[n]? = K.bt[n]?
theorem ZA {K:Cfg} {R R1:Nat→Nat→Prop} {w w' w1 w1':World} (h:∀n,K.Fz n→R n n∧w.heap[n]? = K.bs[n]?∧w'.heap[n]? = K.bt[n]?) (h0:W0 K R w w') (x:Ext0 K R R1 w w' w1 w1'):∀n,K.Fz n→R1 n n∧w1.heap[n]? = K.bs[n]?∧w1'.heap[n]? = K.bt[n]? := fun n hn=>by
 obtain ⟨h1,h2,h3⟩:=h n hn
 obtain ⟨_,_,e1,e2,_⟩:=h0.obj n n h1
 exact ⟨x.le _ _ h1,(x.held n hn (Array.getElem?_eq_some_iff.1 e1).1).trans h2,(x.stay n (Array.getElem?_eq_some_iff.1 e2).1 fun b hb=>(h0.inj b n n hb h1)▸hn).trans h3⟩
structure RM (P:Program) (S:Nat→Prop) (gs:Array Goroutine) (a:Goroutine) (w':World) (t:Trace):Prop where
 here:gs[0]? = some a
 old:∃qq,Leavers P t gs qq
 past:Past (zA S) w'.heap.size t
 nums:∀(i:Nat) (op:MemOp),t[i]? = some op→op.g < gs.size
theorem qV {t u:Trace} {N N':Nat} (h:∀(i:Nat) (op:MemOp),t[i]? = some op→op.g < N) (hN:N≤N') (hu:∀op∈u,op.g < N'):∀(i:Nat) (op:MemOp),(t ++ u)[i]? = some op→op.g < N':=fun i op hi=>by
 rcases getElem?_append_cases hi with ⟨_,h1⟩ | ⟨_,h1⟩
 ·exact Nat.lt_of_lt_of_le (h i op h1) hN
 ·exact hu op h1
section
variable {P:Program} {K Ks:Cfg} {c g:Nat→Bool} {Sp:FuncId→Prop} {bs:Bs}
theorem qO {P:Program} {m m1:Machine} {t t1:Trace}:∀{N M:Nat} {r:Stepped×Trace},runNT P N m t=(.next m1,t1)→runNT P M m1 t1=r→runNT P (N+M) m t=r:=by
 intro N
 induction N generalizing m t with
 | zero =>
   intro M r h1 h2
   simp only [runNT,Prod.mk.injEq,Stepped.next.injEq] at h1
   obtain ⟨rfl,rfl⟩:=h1
   rw [Nat.zero_add];exact h2
 | succ N ih =>
   intro M r h1 h2
   rw [Nat.succ_add]
   simp only [runNT] at h1 ⊢
   cases e:stepT P m with
   | mk s ops =>
     rw [e] at h1
     cases s with
     | next m2=>exact ih h1 h2
     | ended o w=>simp at h1
def Main (K Ks:Cfg) (P' P:Program) (g:Nat→Bool) (Sp:FuncId→Prop) (Fin:Goroutine→World→Prop) (q:Goroutine) (w:World):Prop :=
 ∀(bs:Bs) (S:Nat→Prop) (R:Nat→Nat→Prop) (gs:Array Goroutine) (a:Goroutine) (w':World) (sl:Option (Nat×Nat)) (t:Trace),(GR K P' P bs R q a∨xI K P' P Sp bs R q a)→MS K Ks P' P g S R q w w'→RM P S gs a w' t →
  ∃(N:Nat) (S1:Nat→Prop) (R1:Nat→Nat→Prop) (q1:Goroutine) (w1:World) (gs1:Array Goroutine) (a1:Goroutine) (w1':World) (sl1:Option (Nat×Nat)) (t1:Trace),
   runNT P N (crowd gs w' sl) t=(.next (crowd gs1 w1' sl1),t1)∧zZ bs.src q1∧LT P' true Fin q1 w1∧Desc P' q w q1 w1∧GR K P' P bs R1 q1 a1∧MS K Ks P' P g S1 R1 q1 w1 w1'∧RM P S1 gs1 a1 w1' t1∧Ext0 K R R1 w w' w1 w1'∧∀c,S1 c→S c∨w'.heap.size≤c
def qaF (K Ks:Cfg) (P' P:Program) (g:Nat→Bool) (Sp:FuncId→Prop) (Fin:Goroutine→World→Prop):Prop :=
 ∀(bs:Bs) (S:Nat→Prop) (R:Nat→Nat→Prop) (q:Goroutine) (w:World) (gs:Array Goroutine) (a:Goroutine) (w':World) (sl:Option (Nat×Nat)) (t:Trace),xI K P' P Sp bs R q a→MS K Ks P' P g S R q w w'→RM P S gs a w' t→LT P' true Fin q w →
  (∀q1 w1,yD P' q w q1 w1→Main K Ks P' P g Sp Fin q1 w1) →
  ∃(N:Nat) (S1:Nat→Prop) (R1:Nat→Nat→Prop) (q1:Goroutine) (w1:World) (gs1:Array Goroutine) (a1:Goroutine) (w1':World) (sl1:Option (Nat×Nat)) (t1:Trace),
   runNT P N (crowd gs w' sl) t=(.next (crowd gs1 w1' sl1),t1)∧yD P' q w q1 w1∧GR K P' P bs R1 q1 a1∧MS K Ks P' P g S1 R1 q1 w1 w1'∧RM P S1 gs1 a1 w1' t1∧Ext0 K R R1 w w' w1 w1'∧∀c,S1 c→S c∨w'.heap.size≤c
theorem FsR.longer {bs:Bs} {R:Nat→Nat→Prop} {k k':List Frame} (h:FsR K P' P bs R k k'):2≤k.length:=by
 have hb:1≤bs.src.length:=by
  have:=bs.bad
  generalize bs.src=l at this
  cases this <;> simp
 induction h with
 | one _ _=>simp;omega
 | cons _ _ ih=>simp;omega
theorem GR.not_leaves {bs:Bs} {R:Nat→Nat→Prop} {q a:Goroutine} (h:GR K P' P bs R q a) (hl:¬ zZ bs.src q):¬ Leaves q:=by
 rintro ⟨l1,l2,l3⟩
 cases h with
 | mk ha hk =>
   cases hk with
   | base _=>exact hl ⟨l1,l2,rfl⟩
   | over h =>
     have:=h.longer
     simp only at l3
     rw [l3] at this
     simp at this
theorem main_all (Z:Cov K P' P c g Sp) (Zs:Cov Ks P' P' c g (fun _=>False)) (hPh:qaF K Ks P' P g Sp Fin) {q:Goroutine} {w:World} (hT:LT P' true Fin q w):Main K Ks P' P g Sp Fin q w:=by
 refine LT.strong (M:=fun q w=>Main K Ks P' P g Sp Fin q w) ?_ hT
 intro q w hT ih bs S R gs a w' sl t hE hM hR
 have fromThere:∀{N:Nat} {S1:Nat→Prop} {R1:Nat→Nat→Prop} {q1:Goroutine} {w1:World} {gs1:Array Goroutine} {a1:Goroutine} {w1':World} {sl1:Option (Nat×Nat)} {t1:Trace},
  runNT P N (crowd gs w' sl) t=(.next (crowd gs1 w1' sl1),t1)→yD P' q w q1 w1→(GR K P' P bs R1 q1 a1∨xI K P' P Sp bs R1 q1 a1)→MS K Ks P' P g S1 R1 q1 w1 w1'→RM P S1 gs1 a1 w1' t1→Ext0 K R R1 w w' w1 w1'→(∀c,S1 c→S c∨w'.heap.size≤c) →
  ∃(N:Nat) (S1:Nat→Prop) (R1:Nat→Nat→Prop) (q1:Goroutine) (w1:World) (gs1:Array Goroutine) (a1:Goroutine) (w1':World) (sl1:Option (Nat×Nat)) (t1:Trace),
  runNT P N (crowd gs w' sl) t=(.next (crowd gs1 w1' sl1),t1)∧zZ bs.src q1∧LT P' true Fin q1 w1∧Desc P' q w q1 w1∧GR K P' P bs R1 q1 a1∧MS K Ks P' P g S1 R1 q1 w1 w1'∧RM P S1 gs1 a1 w1' t1∧Ext0 K R R1 w w' w1 w1'∧∀c,S1 c→S c∨w'.heap.size≤c:=by
  intro N S1 R1 q1 w1 gs1 a1 w1' sl1 t1 hrun hb hE1 hM1 hR1 hX hSS
  obtain ⟨N2,S2,R2,q2,w2,gs2,a2,w2',sl2,t2,h1,h2,h3,h3',h4,h5,h6,h7,h8⟩:=ih q1 w1 hb bs S1 R1 gs1 a1 w1' sl1 t1 hE1 hM1 hR1
  exact ⟨N+N2,S2,R2,q2,w2,gs2,a2,w2',sl2,t2,qO hrun h1,h2,h3,hb.desc.trans h3',h4,h5,h6,hX.trans h7,fun c hc=>(h8 c hc).elim (hSS c) fun h=>.inr (Nat.le_trans hX.size' h)⟩
 rcases hE with hG | hE
 ·by_cases hla:zZ bs.src q
  ·exact ⟨0,S,R,q,w,gs,a,w',sl,t,rfl,hla,hT,.refl _ _,hG,hM,hR,.refl _ _,fun _ h=>.inl h⟩
  ·have hl:¬ Leaves q:=hG.not_leaves hla
   obtain ⟨h0,⟨qq,hL⟩,hP,hNm⟩:=hR
   have stepOut:∀(M:Nat) (gs:Array Goroutine) (w':World) (sl:Option (Nat×Nat)) (t:Trace) (qq:Nat→Nat),sumTo gs.size qq≤M→gs[0]? = some a→MS K Ks P' P g S R q w w'→Leavers P t gs qq→Past (zA S) w'.heap.size t→(∀(i:Nat) (op:MemOp),t[i]? = some op→op.g < gs.size) →
    ∃(N:Nat) (R1:Nat→Nat→Prop) (q1:Goroutine) (w1:World) (gs1:Array Goroutine) (a1:Goroutine) (w1':World) (sl1:Option (Nat×Nat)) (t1:Trace),
     runNT P N (crowd gs w' sl) t=(.next (crowd gs1 w1' sl1),t1)∧yD P' q w q1 w1∧(GR K P' P bs R1 q1 a1∨xI K P' P Sp bs R1 q1 a1)∧MS K Ks P' P g S R1 q1 w1 w1'∧RM P S gs1 a1 w1' t1∧Ext0 K R R1 w w' w1 w1':=by
    intro M
    induction M using Nat.strongRecOn with
    | _ M ihM =>
    intro gs w' sl t qq hq h0 hM hL hP hNm
    have hrun:a.status=.running:=by cases hG;rfl
    have haw:∀x∈gs,awake x:=by
     intro x hx
     obtain ⟨i,hi,rfl⟩:=Array.mem_iff_getElem.1 hx
     rcases Nat.eq_zero_or_pos i with rfl | hpos
     ·have:gs[0]=a:=by simpa [Array.getElem?_eq_getElem hi] using h0
      rw [this];exact awake_of (.inl hrun)
     ·exact awake_of ((hL.old i _ hpos (Array.getElem?_eq_getElem hi)).status.elim .inl fun x=>.inr (.inr x))
    obtain ⟨i,x,d,sl',hi,hx,hst⟩:=crowd_pick (P:=P) (w:=w') (sl:=sl) haw ⟨0,a,h0,hrun⟩
    rcases Nat.eq_zero_or_pos i with rfl | hpos
    ·obtain rfl:x=a:=by rw [h0] at hi;exact (Option.some.inj hi).symm
     let τ:Nat→Question→Nat:=fun n z=>w'.tape (d+(n - w.drawn)) z
     obtain ⟨q1,w1,es,hs⟩:∃q1 w1 es,stepG P' true q (w.tp τ)=.go q1 w1 es:=by
      cases hT with
      | fin h _=>exact absurd h hl
      | step _ nx h1 _=>obtain ⟨es,e,_⟩:=h1 τ;exact ⟨_,_,es,e⟩
     obtain ⟨hnb,hT1⟩:=hT.child hl hs
     have hwr:WR (K.at w1.drawn) R (w.tp τ) (w'.at d):=W0.wr (⟨hM.w0.fn,hM.w0.inj,hM.w0.obj,hM.w0.fz,hM.w0.glob,hM.w0.big,hM.w0.big'⟩:W0 K R (w.tp τ) (w'.at d)) _ fun j z _=>by
      show w'.tape (d+j) z=w'.tape (d+(w.drawn+j - w.drawn)) z
      rw [Nat.add_sub_cancel_left]
     obtain ⟨hn1,hst1⟩:=jf (m':=true) (Z.at _) (show yE (w.tp τ) from hM.nd) hwr hM.glob (hG.at _) hla hs rfl
     rcases hst1 with hb | ⟨R1,a1,w1',es',e,hg1,hw1,hx1,hv1⟩
     ·exact absurd hb hnb
     have hself:YH Ks P' g q1 w1:=(hM.self.turn Zs hl τ hs).2 hnb
     have hX:Ext0 K R R1 w w' w1 w1':=Ext.e0 hx1.un
     have hshun:∀b c,R1 b c→¬ S c:=fun b c hr hc=>by
      rcases hX.new b c hr with h | ⟨_,h⟩
      ·exact hM.shun b c h hc
      ·have:=hM.low c hc
       omega
     have hrunT:=runT_crowd_go (P:=P) (sl:=sl') (i:=0) hi (show stepG P (0 == 0) x (w'.at d)=_ from e)
     have hlt:0 < gs.size:=(Array.getElem?_eq_some_iff.1 h0).1
     have hlow:∀b c,R1 b c→c < w1'.heap.size:=fun b c hr=>by
      obtain ⟨_,o',_,h2,_⟩:=hw1.obj b c hr
      exact (Array.getElem?_eq_some_iff.1 h2).1
     have hone:runNT P (Nat.succ 0) (crowd gs w' sl) t=(.next (crowd ((gs.map (woken P x a1 w1')).setIfInBounds 0 a1) w1' sl'),t ++ MemOp.ofEvents 0 x.frame.fn x.frame.place es'):=by
      simp only [runNT,hst,hrunT]
     refine ⟨Nat.succ 0,R1,q1,w1,_,a1,w1',sl',_,hone,⟨τ,q1,w1,es,hl,hs,.refl _ _⟩,hg1.imp (·.un) (·.un),⟨hw1.w0,hn1,hself,fun n hn=>hX.le _ _ (hM.glob n hn),hshun,fun c hc=>Nat.lt_of_lt_of_le (hM.low c hc) hX.size',ZA hM.keep hM.w0 hX⟩,⟨by simp [hlt],⟨qq,?_⟩,?_,qV hNm (by simp) fun op hop=>by obtain ⟨e,_,rfl⟩:=Go.Conc.mem_ofEvents hop;simpa using hlt⟩,hX⟩
     ·exact ⟨fun j y hj hy=>by
       have hne:0≠j:=by omega
       rw [Array.getElem?_setIfInBounds_ne hne,Array.getElem?_map] at hy
       obtain ⟨z,hz,rfl⟩:=Option.map_eq_some_iff.1 hy
       have hq:=hL.old j z hj hz
       rw [woken_quitsD hq,Deaf_other t (by omega) _ (fun op hop=>by obtain ⟨e,_,rfl⟩:=Go.Conc.mem_ofEvents hop;rfl)]
       exact hq,fun j hj=>by
       rw [Deaf_other t (g':=0) (by simp at hj;omega) _ (fun op hop=>by obtain ⟨e,_,rfl⟩:=Go.Conc.mem_ofEvents hop;rfl)]
       exact hL.above j (by simpa using hj)⟩
     ·exact (hP.mono hX.size').own fun ev hev=>qaS (hv1 ev hev) hshun hlow
    ·
     have hq1:=hL.old i x hpos hi
     have hi0:(i == 0)=false:=by simp;omega
     have hlt:i < gs.size:=(Array.getElem?_eq_some_iff.1 hi).1
     cases hqi:qq i with
     | zero=>rw [hqi] at hq1;rw [hq1.1] at hx;cases hx
     | succ k =>
       rw [hqi] at hq1
       rcases hq1 with ⟨hf,_⟩ | ⟨_,g',es,hm,hstp,hq'⟩
       ·rw [hf] at hx;cases hx
       have hrunT:=runT_crowd_go (P:=P) (sl:=sl') (i:=i) hi (by rw [hi0];exact hstp (w'.at d))
       have hsz:((gs.map (woken P x g' (w'.at d))).setIfInBounds i g').size=gs.size:=by simp
       have hsum:sumTo gs.size (upd qq i k)+(k+1)=sumTo gs.size qq+k:=by
        have:=sumTo_upd qq k id hlt
        simpa [hqi] using this
       obtain ⟨N,R1,q1,w1,gs1,a1,w1',sl1,t1,r1,r2,r3,r4,r5,r6⟩:=ihM (sumTo gs.size (upd qq i k)) (by omega) ((gs.map (woken P x g' (w'.at d))).setIfInBounds i g') (w'.at d) sl' (t ++ MemOp.ofEvents i x.frame.fn x.frame.place es) (upd qq i k) (by rw [hsz];exact Nat.le_refl _)
        (by
          have hne:i≠0:=by omega
          rw [Array.getElem?_setIfInBounds_ne hne,Array.getElem?_map,h0]
          simp [woken_run hrun])
        ⟨⟨hM.w0.fn,hM.w0.inj,hM.w0.obj,hM.w0.fz,hM.w0.glob,hM.w0.big,hM.w0.big'⟩,hM.nd,hM.self,hM.glob,hM.shun,hM.low,hM.keep⟩
        ⟨fun j y hj hy=>by
          by_cases hji:i=j
          ·subst hji
           rw [Array.getElem?_setIfInBounds_self_of_lt (by simpa using hlt)] at hy
           obtain rfl:=Option.some.inj hy
           rw [upd_same,Deaf_own]
           exact hq'
          ·rw [Array.getElem?_setIfInBounds_ne hji,Array.getElem?_map] at hy
           obtain ⟨z,hz,rfl⟩:=Option.map_eq_some_iff.1 hy
           have hqj:=hL.old j z hj hz
           rw [woken_quitsD hqj,upd_ne qq k (Ne.symm hji),Deaf_other t hji _ (fun op hop=>by obtain ⟨e,_,rfl⟩:=Go.Conc.mem_ofEvents hop;rfl)]
           exact hqj,fun j hj=>by
          rw [Deaf_other t (g':=i) (by simp at hj;omega) _ (fun op hop=>by obtain ⟨e,_,rfl⟩:=Go.Conc.mem_ofEvents hop;rfl)]
          exact hL.above j (by simpa using hj)⟩
        (hP.mute (by omega) hm) (qV hNm (by simp) fun op hop=>by obtain ⟨e,_,rfl⟩:=Go.Conc.mem_ofEvents hop;simpa using hlt)
       exact ⟨N+1,R1,q1,w1,gs1,a1,w1',sl1,t1,by simp only [runNT,hst,hrunT];exact r1,r2,r3,r4,r5,⟨r6.le,r6.new,r6.size,r6.size',r6.stay,r6.tp',r6.os',r6.out',r6.held⟩⟩
   obtain ⟨N,R1,q1,w1,gs1,a1,w1',sl1,t1,r1,r2,r3,r4,r5,r6⟩:=stepOut _ gs w' sl t qq (Nat.le_refl _) h0 hM hL hP hNm
   exact fromThere r1 r2 r3 r4 r5 r6 fun _ h=>.inl h
 ·obtain ⟨N,S1,R1,q1,w1,gs1,a1,w1',sl1,t1,r1,r2,r3,r4,r5,r6,r7⟩:=hPh bs S R q w gs a w' sl t hE hM hR hT ih
  exact fromThere r1 r2 (.inl r3) r4 r5 r6 r7
theorem qaf {l:List Frame} (Z:Cov K P' P c g Sp) (Zs:Cov Ks P' P' c g (fun _=>False)) (hPh:qaF K Ks P' P g Sp Fin) {q:Goroutine} {w:World} (hT:LT P' true Fin q w) :
 ∀(S:Nat→Prop) (R:Nat→Nat→Prop) (gs:Array Goroutine) (a:Goroutine) (w':World) (sl:Option (Nat×Nat)) (t:Trace),(GR K P' P (.lone l) R q a∨xI K P' P Sp (.lone l) R q a)→MS K Ks P' P g S R q w w'→RM P S gs a w' t →
 ∃(N:Nat) (S1:Nat→Prop) (R1:Nat→Nat→Prop) (q1:Goroutine) (w1:World) (gs1:Array Goroutine) (a1:Goroutine) (w1':World) (sl1:Option (Nat×Nat)) (t1:Trace),
  runNT P N (crowd gs w' sl) t=(.next (crowd gs1 w1' sl1),t1)∧Leaves q1∧(∀x,Fin q1 (w1.tp x))∧GR K P' P (.lone l) R1 q1 a1∧MS K Ks P' P g S1 R1 q1 w1 w1'∧RM P S1 gs1 a1 w1' t1∧Ext0 K R R1 w w' w1 w1'∧∀c,S1 c→S c∨w'.heap.size≤c:=fun S R gs a w' sl t hE hM hR=>by
 obtain ⟨N,S1,R1,q1,w1,gs1,a1,w1',sl1,t1,h1,h2,h3,_,h4,h5,h6,h7,h8⟩:=main_all Z Zs hPh hT (.lone l) S R gs a w' sl t hE hM hR
 refine ⟨N,S1,R1,q1,w1,gs1,a1,w1',sl1,t1,h1,h2,?_,h4,h5,h6,h7,h8⟩
 cases h3 with
 | fin _ hf=>exact hf
 | step h _ _ _=>exact absurd h2 h
end
end Go.Sim
end
namespace Go.Sim
open Go Go.Conc
section
variable {P':Program} {Fin:Goroutine→World→Prop} {w:World}
theorem tp_self (w:World):w.tp w.tape=w:=rfl
variable {b:Frame} {a:Go.Act} {kk:List Item} {cs:List Frame} {ops:Array Oper} {i:Nat} {rest:List Nat} {o:Oper}
theorem ym {k:List Item}:¬ Leaves (G (b.at a k) cs):=by
 rintro ⟨h,_⟩
 cases h
end
section
variable {K:Cfg} {P':Program} {c g:Nat→Bool} {Fin:Goroutine→World→Prop}
theorem Desc.below1 {q q1:Goroutine} {w w1:World} (h:Desc P' q w q1 w1) (hne:q≠q1):yD P' q w q1 w1:=by
 cases h with
 | refl=>exact absurd rfl hne
 | step t hl hs d=>exact ⟨t,_,_,_,hl,hs,d⟩
end
structure Dn (K:Cfg) (P':Program) (g:Nat→Bool) (Fin:Goroutine→World→Prop) (q0:Goroutine) (w0:World) (q:Goroutine) (w:World):Prop where
 lt:LT P' true Fin q w
 self:YH K P' g q w
 desc:Desc P' q0 w0 q w
section
variable {K:Cfg} {P':Program} {c g:Nat→Bool} {Fin:Goroutine→World→Prop} {q0 q q1:Goroutine} {w0 w w1:World}
theorem Dn.step (Z:Cov K P' P' c g (fun _=>False)) {es:Array Event} (h:Dn K P' g Fin q0 w0 q w) (hl:¬ Leaves q) (hs:stepG P' true q w=.go q1 w1 es):Dn K P' g Fin q0 w0 q1 w1:=by
 have hs':stepG P' true q (w.tp w.tape)=.go q1 w1 es:=hs
 obtain ⟨hb,hT⟩:=h.lt.child hl hs'
 exact ⟨hT,(h.self.turn Z hl w.tape hs').2 hb,h.desc.trans (.step w.tape hl hs' (.refl _ _))⟩
variable {b:Frame} {a:Go.Act} {kk kk':List Item} {cs:List Frame} {ops:Array Oper} {i:Nat} {rest:List Nat} {o:Oper} {x:Code}
theorem Dn.bad (h:Dn K P' g Fin q0 w0 (G (b.at a kk) cs) w):BadK cs:=by
 obtain ⟨R,hg,_⟩:=h.self
 cases hg with
 | mk _ hk=>exact hk.bad
theorem Dn.ctl (Z:Cov K P' P' c g (fun _=>False)) (h:Dn K P' g Fin q0 w0 (G (b.at a kk) cs) w) {a':Go.Act} (hs:∀w,stepG P' true (G (b.at a kk) cs) w=.go (G (b.at a' kk') cs) w #[]):Dn K P' g Fin q0 w0 (G (b.at a' kk') cs) w:=h.step Z ym (hs w)
theorem Dn.seq (Z:Cov K P' P' c g (fun _=>False)) {x y:Code} (h:Dn K P' g Fin q0 w0 (G (b.at a (.code (.seq x y) :: kk)) cs) w):Dn K P' g Fin q0 w0 (G (b.at a (.code x :: .code y :: kk)) cs) w:=h.ctl Z fun _=>stepG_seq
theorem Dn.again (Z:Cov K P' P' c g (fun _=>False)) (h:Dn K P' g Fin q0 w0 (G (b.at a (.inLoop x :: kk)) cs) w):Dn K P' g Fin q0 w0 (G (b.at a (.code x :: .inLoop x :: kk)) cs) w:=h.ctl Z fun _=>stepG_inLoop
theorem Dn.region (Z:Cov K P' P' c g (fun _=>False)) {id:Nat} (h:Dn K P' g Fin q0 w0 (G (b.at a (.code (.region id ops false) :: kk)) cs) w):Dn K P' g Fin q0 w0 (G (b.at a (.inRegion ops (List.range ops.size) :: kk)) cs) w:=h.ctl Z fun _=>stepG_region
theorem Dn.rend (Z:Cov K P' P' c g (fun _=>False)) (h:Dn K P' g Fin q0 w0 (G (b.at a (.inRegion ops [] :: kk)) cs) w):Dn K P' g Fin q0 w0 (G (b.at a kk) cs) w:=h.ctl Z fun _=>stepG_region_end
theorem Dn.cond (Z:Cov K P' P' c g (fun _=>False)) {t:Operand} {x y:Code} {v:Bool} (h:Dn K P' g Fin q0 w0 (G (b.at a (.code (.cond t x y) :: kk)) cs) w) (hv:a.eval t=.bool v):Dn K P' g Fin q0 w0 (G (b.at a (.code (if v then x else y) :: kk)) cs) w:=h.ctl Z fun _=>stepG_cond hv
theorem Dn.exit (Z:Cov K P' P' c g (fun _=>False)) {id:Nat} (h:Dn K P' g Fin q0 w0 (G (b.at a (.code (.exit id) :: kk)) cs) w) (he:exitTo id kk=some kk'):Dn K P' g Fin q0 w0 (G (b.at a kk') cs) w:=h.ctl Z fun _=>stepG_exit he
theorem Dn.value (Z:Cov K P' P' c g (fun _=>False)) {v:Value} (h:Dn K P' g Fin q0 w0 (G (b.at a (.inRegion ops (i :: rest) :: kk)) cs) w) (ho:ops[i]? = some o) (hw:o.guard=none) (hk:b.kind≠.early)
 (hr:(execOp a.eval o).run P' w=.ok (.value v) w1):Dn K P' g Fin q0 w0 (G (b.at (a.put o.dst v) (.inRegion ops rest :: kk)) cs) w1 :=
 h.step Z ym (stepG_value ho (by unfold Region.wanted;rw [hw]) hk hr)
theorem Dn.ok2 (Z:Cov K P' P' c g (fun _=>False)) (h:Dn K P' g Fin q0 w0 (G (b.at a (.inRegion ops (i :: rest) :: kk)) cs) w) (ho:ops[i]? = some o) (hw:o.guard=none) (hd:a.defers=[]):∃n w',(execOp a.eval o).run P' w=.ok n w':=by
 obtain ⟨R,hg,h0,hn,hR⟩:=h.self
 cases hr:(execOp a.eval o).run P' w with
 | ok n w'=>exact ⟨n,w',rfl⟩
 | halt x w' =>
   exfalso
   have ht:yZ x=true:=by
    cases hg with
    | mk ha hk =>
      have hev:(b.at a (.inRegion ops (i :: rest) :: kk)).eval=a.eval:=Frame.eval_at' b a _
      have hop:opB P' c g o.op=true:=by
       have:=ha.todo
       simp only [Frame.at] at this
       cases this with
       | cons h1 h2 =>
         cases h1 with
         | inRegion id ops t hD =>
           have:=((Z.hD _ _).1 hD).2
           simp only [zz,Array.all_eq_true'] at this
           exact this o (Array.mem_of_getElem? ho)
      have hS:=qg.execOp (K:=K.at w'.drawn) (P':=P') (P:=P') (R:=R) (Z.at w'.drawn).toProgs Z.hc o hop (fun hR' x hxo=>ha.eval Z.hc hR hR' x hxo) (fun v=>rfl)
      have hwr:WR (K.at w'.drawn) R w w:=W0.wr h0 _ fun _ _ _=>rfl
      rw [hev] at hS
      exact ((hS w w hwr).2.1 x w' hr (Nat.le_refl _)).2
   cases h.lt with
   | fin hl _=>exact ym hl
   | step hl nx h1 _ =>
     obtain ⟨es,e,hnb⟩:=h1 w.tape
     rw [tp_self,stepG_oper ho (by unfold Region.wanted;rw [hw])] at e
     simp only [stepG.apply,Sem.runT_eq,if_true,hr] at e
     cases x with
     | panic v =>
       simp only [GStep.after,GStep.go.injEq] at e
       refine hnb ?_
       rw [← e.1]
       obtain ⟨ch',e'⟩:=raise_mode (b.at a (.inRegion ops (i :: rest) :: kk)) [{ v,recovered:=false }]
       exact .up ch' e' (by rw [xn];intro d hx;change d∈a.defers at hx;rw [hd] at hx;cases hx) h.bad
     | stuck s=>simp [GStep.after] at e
     | unsupported q =>
       cases q <;> first
        | (simp [GStep.after] at e;done)
        | (simp [yZ] at ht;done)
     | _=>simp [yZ] at ht
end
end Go.Sim
section
namespace Go.Sim
open Go Go.Conc
open Go.ConcN (fork_knows Deaf_absent)
structure PastJ (Shun Box:Loc→Prop) (j B:Nat) (t:Trace):Prop where
 clean:∀said,¬ Race said t
 known:∀i a,touchAt t i=some a→a.loc.isMemory=true→Knows t j i∨(Shun a.loc∧a.kind=.atomic)∨(Box a.loc∧a.write=false∧t.g? i=some 0)
 box:∀i a,touchAt t i=some a→Box a.loc→a.write=true→Knows t 0 i
 over:∀i g,t.g? i=some g→g≠0→t.counts i→(∃k,t.g? k=some 0∧HappensBefore t i k)∨g=j
 hears:Deaf t 0=0
 hears':Deaf t j=0
 seen:∀op∈t,op.act.low B
section
variable {Shun Box:Loc→Prop} {j B:Nat} {t u:Trace}
theorem gof {t:Trace} {i:Nat} {op:MemOp} (h:t[i]? = some op):t.g? i=some op.g:=by simp [Trace.g?,h]
theorem zt {i:Nat} {a:Touch} (ha:touchAt (t ++ u) i=some a):(i < t.size∧touchAt t i=some a)∨∃op,op∈u∧(t ++ u)[i]? = some op∧op.act.touch? = some a:=by
 obtain ⟨z,hz,hza⟩:=touch_of ha
 rcases getElem?_append_cases hz with ⟨hi,hz'⟩ | ⟨_,hzu⟩
 ·exact .inl ⟨hi,by rw [touchAt_of hz'];exact hza⟩
 ·exact .inr ⟨z,hzu,hz,hza⟩
theorem yN {i:Nat} (hc:(t ++ u).counts i):(i < t.size∧t.counts i)∨∃op a,op∈u∧(t ++ u)[i]? = some op∧op.act.touch? = some a:=by
 obtain ⟨x,hx,hm,hk⟩:=hc
 rcases zt (t:=t) (u:=u) (show touchAt (t ++ u) i=some x from hx) with ⟨h1,_⟩ | ⟨op,h1,h2,h3⟩
 ·exact .inl ⟨h1,(counts_old h1).1 ⟨x,hx,hm,hk⟩⟩
 ·exact .inr ⟨op,x,h1,h2,h3⟩
theorem xL {i:Nat} {p:Prop} (h:(∃k,t.g? k=some 0∧HappensBefore t i k)∨p):(∃k,(t ++ u).g? k=some 0∧HappensBefore (t ++ u) i k)∨p:=by
 rcases h with ⟨k,h1,h2⟩ | h
 ·have hk:k < t.size:=by
   unfold Trace.g? at h1
   obtain ⟨z,hz,_⟩:=Option.map_eq_some_iff.1 h1
   exact lt_size_of_getElem? hz
  exact .inl ⟨k,by rw [g?_old hk];exact h1,hb_app u h2⟩
 ·exact .inr h
theorem PastJ.mono {B':Nat} (h:PastJ Shun Box j B t) (hB:B≤B'):PastJ Shun Box j B' t:=⟨h.clean,h.known,h.box,h.over,h.hears,h.hears',fun op hop=>MemAct.low_mono hB (h.seen op hop)⟩
theorem PastJ.app (h:PastJ Shun Box j B t) (hu:∀op∈u,op.g=j) (hs:∀op∈u,∀b,op.act.touch? = some b→(Shun b.loc→b.kind≠.plain)∧(Box b.loc→b.write=false)) (hd:Deaf (t ++ u) j=0) (hd0:Deaf (t ++ u) 0=0) (hl:∀op∈u,op.act.low B):PastJ Shun Box j B (t ++ u):=by
 refine ⟨fun said=>noRace_append (h.clean said) hu fun i a ha op hop b hb hc=>?_,fun i a ha hm=>?_,fun i a ha hb hw=>?_,fun i g hg hne hc=>?_,hd0,hd,seen_app h.seen hl⟩
 ·obtain ⟨h1,h2⟩:=hs op hop b hb
  obtain ⟨c1,c2,c3,c4⟩:=hc
  rcases h.known i a ha c2 with hk | ⟨hsa,hka⟩ | ⟨hba,hwa,_⟩
  ·exact hk
  ·have hkb:=h1 (c1▸hsa)
   rw [hka] at c4
   rcases c4 with x | x | ⟨_,x,_⟩
   ·cases x
   ·exact absurd x hkb
   ·cases x
  ·rcases c3 with x | x
   ·rw [hwa] at x;cases x
   ·rw [h2 (c1▸hba)] at x;cases x
 ·rcases zt ha with ⟨h0,h1⟩ | ⟨op,h1,h2,h3⟩
  ·exact (h.known i a h1 hm).imp (·.app u) (·.imp id fun ⟨x,y,z⟩=>⟨x,y,by rw [g?_old h0];exact z⟩)
  ·have:=knows_own h2
   rw [hu op h1] at this
   exact .inl this
 ·rcases zt ha with ⟨_,h1⟩ | ⟨op,h1,h2,h3⟩
  ·exact (h.box i a h1 hb hw).app u
  ·rw [(hs op h1 a h3).2 hb] at hw;cases hw
 ·rcases yN hc with ⟨h1,h2⟩ | ⟨op,a,h1,h2,h3⟩
  ·exact xL (h.over i g (by rw [← g?_old (u:=u) h1];exact hg) hne h2)
  ·refine .inr ?_
   rw [gof h2,hu op h1] at hg
   exact (Option.some.inj hg).symm
theorem PastJ.zero (h:PastJ Shun Box j B t) (hj:j≠0) (hu:∀op∈u,op.g=0) (hs:∀op∈u,∀b,op.act.touch? = some b→Box b.loc∧b.write=false) (hd0:Deaf (t ++ u) 0=0) (hl:∀op∈u,op.act.low B):PastJ Shun Box j B (t ++ u):=by
 refine ⟨fun said=>noRace_append (h.clean said) hu fun i a ha op hop b hb hc=>?_,fun i a ha hm=>?_,fun i a ha hb hw=>?_,fun i g hg hne hc=>?_,hd0,(Deaf_other t (Ne.symm hj) u hu).trans h.hears',seen_app h.seen hl⟩
 ·obtain ⟨h1,h2⟩:=hs op hop b hb
  obtain ⟨c1,c2,c3,c4⟩:=hc
  rcases c3 with x | x
  ·exact h.box i a ha (c1▸h1) x
  ·rw [h2] at x;cases x
 ·rcases zt ha with ⟨h0,h1⟩ | ⟨op,h1,h2,h3⟩
  ·exact (h.known i a h1 hm).imp (·.app u) (·.imp id fun ⟨x,y,z⟩=>⟨x,y,by rw [g?_old h0];exact z⟩)
  ·obtain ⟨x,y⟩:=hs op h1 a h3
   exact .inr (.inr ⟨x,y,by rw [gof h2,hu op h1]⟩)
 ·rcases zt ha with ⟨_,h1⟩ | ⟨op,h1,h2,h3⟩
  ·exact (h.box i a h1 hb hw).app u
  ·rw [(hs op h1 a h3).2] at hw;cases hw
 ·rcases yN hc with ⟨h1,h2⟩ | ⟨op,a,h1,h2,h3⟩
  ·exact xL (h.over i g (by rw [← g?_old (u:=u) h1];exact hg) hne h2)
  ·rw [gof h2,hu op h1] at hg
   exact absurd (Option.some.inj hg).symm hne
theorem PastJ.quiet {g:Nat} (h:PastJ Shun Box j B t) (hu:∀op∈u,op.g=g) (hn:∀op∈u,op.act.touch? = none) (hd0:Deaf (t ++ u) 0=0) (hd:Deaf (t ++ u) j=0) (hl:∀op∈u,op.act.low B):PastJ Shun Box j B (t ++ u):=by
 refine ⟨fun said=>noRace_append (h.clean said) hu fun i a _ op hop b hb _=>(by rw [hn op hop] at hb;cases hb),fun i a ha hm=>?_,fun i a ha hb hw=>?_,fun i g hg hne hc=>?_,hd0,hd,seen_app h.seen hl⟩
 ·rcases zt ha with ⟨h0,h1⟩ | ⟨op,h1,h2,h3⟩
  ·exact (h.known i a h1 hm).imp (·.app u) (·.imp id fun ⟨x,y,z⟩=>⟨x,y,by rw [g?_old h0];exact z⟩)
  ·rw [hn op h1] at h3;cases h3
 ·rcases zt ha with ⟨_,h1⟩ | ⟨op,h1,h2,h3⟩
  ·exact (h.box i a h1 hb hw).app u
  ·rw [hn op h1] at h3;cases h3
 ·rcases yN hc with ⟨h1,h2⟩ | ⟨op,a,h1,h2,h3⟩
  ·exact xL (h.over i g (by rw [← g?_old (u:=u) h1];exact hg) hne h2)
  ·rw [hn op h1] at h3;cases h3
theorem PastJ.fork {N:Nat} (h:Past Shun B t) (hN:0 < N) (hbx:∀l,Box l→l.isMemory=true∧¬ Shun l) (hg:∀(i:Nat) (op:MemOp),t[i]? = some op→op.g < N) {x y:MemOp} (hx:x.g=0∧x.act=.go N) (hy:y.g=N∧y.act=.start):PastJ Shun Box N B (t ++ #[x,y]):=by
 have hk:Deaf t N=0:=Deaf_absent fun i op hi e=>by have:=hg i op hi;omega
 have hnt:∀op∈#[x,y],∀b,op.act.touch? = some b→False:=by
  intro op hop b hb
  simp only [List.mem_toArray,List.mem_cons,List.not_mem_nil,or_false] at hop
  rcases hop with rfl | rfl
  ·rw [hx.2] at hb;cases hb
  ·rw [hy.2] at hb;cases hb
 have hst:∀op∈#[x,y],op.act≠.mark .disable∧op.act≠.mark .enable:=by
  intro op hop
  simp only [List.mem_toArray,List.mem_cons,List.not_mem_nil,or_false] at hop
  rcases hop with rfl | rfl
  ·rw [hx.2];simp
  ·rw [hy.2];simp
 refine ⟨fun said=>?_,fun i a ha hm=>?_,fun i a ha hb hw=>?_,fun i g hgi hne hc=>?_,(Go.ConcN.Deaf_still t 0 _ hst).trans h.hears,(Go.ConcN.Deaf_still t N _ hst).trans hk,seen_app h.seen fun op hop=>?_⟩
 ·have e:t ++ #[x,y]=(t ++ #[x]) ++ #[y]:=by apply Array.ext';simp
  rw [e]
  exact noRace_append (g:=N) (noRace_append (g:=0) (h.clean said) (fun op hop=>by simp at hop;rw [hop];exact hx.1) (fun i a _ op hop b hb _=>(hnt op (by simp at hop ⊢;exact .inl hop) b hb).elim))
   (fun op hop=>by simp at hop;rw [hop];exact hy.1) (fun i a _ op hop b hb _=>(hnt op (by simp at hop ⊢;exact .inr hop) b hb).elim)
 ·rcases zt ha with ⟨_,h1⟩ | ⟨op,h1,_,h3⟩
  ·exact (h.known i a h1 hm).elim (fun z=>.inl (fork_knows hx hy h.hears hk z)) fun z=>.inr (.inl z)
  ·exact (hnt op h1 a h3).elim
 ·rcases zt ha with ⟨_,h1⟩ | ⟨op,h1,_,h3⟩
  ·rcases h.known i a h1 (hbx _ hb).1 with z | ⟨z,_⟩
   ·exact z.app _
   ·exact absurd z (hbx _ hb).2
  ·exact (hnt op h1 a h3).elim
 ·rcases yN hc with ⟨h1,h2⟩ | ⟨op,a,h1,_,h3⟩
  ·exact xL (.inl (h.over i g (by rw [← g?_old (u:=#[x,y]) h1];exact hgi) hne h2))
  ·exact (hnt op h1 a h3).elim
 ·simp only [List.mem_toArray,List.mem_cons,List.not_mem_nil,or_false] at hop
  rcases hop with rfl | rfl
  ·rw [hx.2];trivial
  ·rw [hy.2];trivial
theorem PastJ.back (h:PastJ Shun Box j B t) (hn:∀op∈u,op.act.touch? = none) (hst:∀op∈u,op.act≠.mark .disable∧op.act≠.mark .enable) (hl:∀op∈u,op.act.low B) {p q:Nat} (hp:t.size≤p) (hpg:(t ++ u).g? p=some j) (hqg:(t ++ u).g? q=some 0) (hpq:HappensBefore (t ++ u) p q):Past Shun B (t ++ u):=by
 obtain ⟨zp,hzp,hzpg⟩:=Option.map_eq_some_iff.1 hpg
 obtain ⟨zq,hzq,hzqg⟩:=Option.map_eq_some_iff.1 hqg
 have key:∀{i:Nat},Knows t j i→HappensBefore (t ++ u) i q:=fun hk=>(hk.hb_new hp hzp hzpg).trans hpq
 refine ⟨fun said=>noRace_appendMute (h.clean said) hn,fun i a ha hm=>?_,fun i g hg hne hc=>?_,(Go.ConcN.Deaf_still t 0 _ hst).trans h.hears,seen_app h.seen hl⟩
 ·rcases zt ha with ⟨h0,h1⟩ | ⟨op,h1,_,h3⟩
  ·rcases h.known i a h1 hm with hk | hk | ⟨_,_,hk⟩
   ·exact .inl ⟨q,zq,hzq,hzqg,.inr (key hk)⟩
   ·exact .inr hk
   ·obtain ⟨z,hz,hzg⟩:=Option.map_eq_some_iff.1 hk
    have:=knows_own hz
    rw [hzg] at this
    exact .inl (this.app u)
  ·rw [hn op h1] at h3;cases h3
 ·rcases yN hc with ⟨h1,h2⟩ | ⟨op,a,h1,_,h3⟩
  ·have hg':t.g? i=some g:=by rw [← g?_old (u:=u) h1];exact hg
   rcases xL (u:=u) (h.over i g hg' hne h2) with h4 | h4
   ·exact h4
   ·subst h4
    obtain ⟨z,hz,hzg⟩:=Option.map_eq_some_iff.1 hg'
    have:=knows_own hz
    rw [hzg] at this
    exact ⟨q,hqg,key this⟩
  ·rw [hn op h1] at h3;cases h3
end
end Go.Sim
end
namespace Go.Sim
open Go Go.Instr Go.Conc
section
variable (c0:Nat→Bool) (F:Nat→List Nat)
def fvB:Value→Bool
 | .func (.func g) _ _=>c0 g && (F g).isEmpty
 | .func _ _ _=>false
 | _=>true
def qdc (f:Nat) (o:Oper):Bool :=
 match o.dst with
 | none=>true
 | some t => !(F f).contains t || (match o.op with | .makeFunc (.func g) _ _=>c0 g && (F g).isEmpty | .move (.tmp u)=>(F f).contains u | _=>false)
def fargB (f:Nat):Option Operand→Bool
 | none=>true
 | some (.tmp u)=>(F f).contains u
 | some (.func h)=>c0 h && (F h).isEmpty
 | _=>false
def fopB (f:Nat) (o:Oper):Bool :=
 qdc c0 F f o && match o.op with
 | .call { callee:=.value (.func g),args:=xs,.. }=>c0 g && (F g).all fun t=>fargB c0 F f xs[t]?
 | .call { callee:=.value (.tmp u),.. }=>(F f).contains u
 | .call { callee:=.builtin b,.. }=>(match b with | .len | .min | .max | .append=>true | _=>false)
 | .call _ | .go _ | .defer _ | .send .. | .recv .. | .select .. | .nilCheck _ | .panic _ | .ready _ | .waits _=>false
 | _=>true
def xP (f:Nat):Code→Bool
 | .skip | .label _ | .exit _ | .ret=>true
 | .region _ ops _=>ops.all (fopB c0 F f)
 | .seq a b=>xP f a && xP f b
 | .cond _ a b=>xP f a && xP f b
 | .block _ b | .loop b | .scope b=>xP f b
 | _=>false
def Zi (f:Nat):Item→Bool
 | .code c=>xP c0 F f c
 | .inBlock _ | .inScope _=>true
 | .inLoop b=>xP c0 F f b
 | .inRegion ops _=>ops.all (fopB c0 F f)
 | _=>false
structure NFr (a:Frame):Prop where
 fn:c0 a.fn=true
 tm:∀t∈F a.fn,fvB c0 F (a.tmps.getD t undef)=true
 todo:∀it∈a.todo,Zi c0 F a.fn it=true
 round:a.roundOf=none
 defers:a.defers=[]
 kind:a.kind=.normal
structure NFk (a:Frame):Prop extends NFr c0 F a where
 pend:∀o,a.oper? = some o→∀d,o.dst=some d→d∉F a.fn
structure NG (base:List Frame) (q:Goroutine):Prop where
 fr:NFr c0 F q.frame
 ks:∃ks,q.callers=ks ++ base∧∀a∈ks,NFk c0 F a
 st:q.status=.running
 dy:q.dying=none
 md:q.frame.mode=.run∨q.frame.mode=.returning
def XH (P:Program):Prop:=∀f,c0 f=true→∃fn x,P.funcs[f]? = some fn∧fn.body=some x∧(fn.name == "runtime.NumGoroutine")=false∧xP c0 F f x=true
end
section
variable {c0:Nat→Bool} {F:Nat→List Nat} {P:Program} {a:Frame} {v:Value}
theorem getD_set {xs:Array Value} {d t:Nat} {v:Value}:(xs.setIfInBounds d v).getD t undef=if d=t∧t < xs.size then v else xs.getD t undef:=by
 by_cases h:t < xs.size
 ·by_cases e:d=t
  ·subst e;simp [Array.getD,h]
  ·simp [Array.getD,h,e,Array.getElem_setIfInBounds]
 ·simp [Array.getD,h]
theorem NFr.finish (h:NFr c0 F a) (hv:fvB c0 F v=true∨∀o,a.oper? = some o→∀d,o.dst=some d→d∉F a.fn):NFr c0 F (a.finish v):=by
 obtain ⟨fn,ts,td,ds,mode,kind,ro⟩:=a
 obtain ⟨h1,h2,h3,h4,h5,h6⟩:=h
 simp only at h1 h2 h3 h4 h5 h6
 cases td with
 | nil=>exact ⟨h1,h2,h3,h4,h5,h6⟩
 | cons it k =>
   have h0:=h3 it (List.mem_cons_self ..)
   cases it with
   | inRegion ops todo =>
     cases todo with
     | nil=>exact ⟨h1,h2,h3,h4,h5,h6⟩
     | cons i rest =>
       refine ⟨h1,fun t ht=>?_,fun it hit=>?_,h4,h5,h6⟩
       ·show fvB c0 F (Array.getD (match (ops[i]?).bind (·.dst) with | some d=>ts.setIfInBounds d v | none=>ts) t undef)=true
        cases e:(ops[i]?).bind (·.dst) with
        | none=>exact h2 t ht
        | some d =>
          simp only
          rw [getD_set]
          split
          ·rename_i hd
           rcases hv with hv | hv
           ·exact hv
           ·exfalso
            obtain ⟨o,ho,hod⟩:=Option.bind_eq_some_iff.1 e
            exact hv o ho d hod (hd.1▸ht)
          ·exact h2 t ht
       ·rcases List.mem_cons.1 hit with rfl | hit
        ·exact h0
        ·exact h3 it (List.mem_cons_of_mem _ hit)
   | _=>first
     | exact ⟨h1,h2,h3,h4,h5,h6⟩
     | (exfalso;simp [Zi] at h0;done)
theorem QL {id:Nat}:∀{k k':List Item},exitTo id k=some k'→∀x∈k',x∈k
 | [],_,h=>by simp [exitTo] at h
 | it :: k,k',h=>fun x hx=>by
   cases it with
   | inBlock id' =>
     simp only [exitTo] at h
     split at h
     ·cases h;exact List.mem_cons_of_mem _ hx
     ·exact List.mem_cons_of_mem _ (QL h x hx)
   | _=>simp only [exitTo] at h;exact List.mem_cons_of_mem _ (QL h x hx)
theorem NFr.enter (hC:XH c0 F P) {f:Nat} {xs:Array Value} (hf:c0 f=true) (hx:∀t∈F f,fvB c0 F (xs.getD t undef)=true):NFr c0 F (Frame.enter P f xs .normal):=by
 obtain ⟨fn,x,h1,h2,_,h3⟩:=hC f hf
 refine ⟨hf,fun t ht=>?_,fun it hit=>?_,rfl,rfl,rfl⟩
 ·show fvB c0 F (Array.getD (xs ++ _) t undef)=true
  have:=hx t ht
  by_cases h:t < xs.size
  ·have e:(xs ++ Array.replicate (((P.funcs[f]?).map (·.ntmps)).getD 0 - xs.size) undef).getD t undef=xs.getD t undef:=by
    simp [Array.getD,h,Array.getElem_append,Nat.lt_of_lt_of_le h (Nat.le_add_right _ _)]
   rw [e];exact this
  ·have e:(xs ++ Array.replicate (((P.funcs[f]?).map (·.ntmps)).getD 0 - xs.size) undef).getD t undef=undef:=by
    unfold Array.getD
    split
    ·simp [Array.getElem_append,h]
    ·rfl
   rw [e];rfl
 ·simp only [Frame.enter,h1,h2,Option.bind_some,Option.getD_some,List.mem_singleton] at hit
  subst hit
  exact h3
end
section
variable {c0:Nat→Bool} {F:Nat→List Nat} {P:Program} {f:Nat} {o:Oper} {ev:Operand→Value} {w w1:World} {n:Next}
def OpOut (c0:Nat→Bool) (F:Nat→List Nat) (f:Nat) (o:Oper) (n:Next):Prop :=
 (∃v,n=.value v∧(fvB c0 F v=true∨∀d,o.dst=some d→d∉F f))∨n=.skip ∨
 ∃g xs,n=.enter g xs∧c0 g=true∧(∀t∈F g,fvB c0 F (xs.getD t undef)=true)∧∀d,o.dst=some d→d∉F f
theorem qbq {s:Sem Value} (h:(do Pure.pure (Next.value (← s)):Sem Next).run P w=.ok n w1):∃v,n=.value v:=by
 rw [Sem.run_bind] at h
 cases e:s.run P w with
 | halt a b=>rw [e] at h;simp at h
 | ok v w2=>rw [e] at h;simp at h;exact ⟨v,h.1.symm⟩
theorem qeS {s:Sem Unit} (h:(do s;Pure.pure Next.skip:Sem Next).run P w=.ok n w1):n=.skip:=by
 rw [Sem.run_bind] at h
 cases e:s.run P w with
 | halt a b=>rw [e] at h;simp at h
 | ok v w2=>rw [e] at h;simp at h;exact h.1.symm
theorem Qg (hC:XH c0 F P) {g:Nat} {xs:Array Value} (hg:c0 g=true) (h:(callFunc g xs).run P w=.ok n w1):n=.enter g xs:=by
 obtain ⟨fn,x,h1,h2,h3,_⟩:=hC g hg
 unfold callFunc at h
 simp [h1,h2] at h
 have h3':¬ fn.name= "runtime.NumGoroutine":=by simpa using h3
 simp [h3'] at h
 exact h.1.symm
theorem Xw (h:qdc c0 F f o=true) (hm:∀g xs ys,o.op≠.makeFunc (.func g) xs ys) (hm2:∀u,o.op≠.move (.tmp u)):∀d,o.dst=some d→d∉F f:=by
 intro d hd hx
 unfold qdc at h
 rw [hd] at h
 simp only [Bool.or_eq_true,Bool.not_eq_true'] at h
 rcases h with h | h
 ·have:(F f).contains d=true:=by simpa using hx
  rw [this] at h;cases h
 ·cases h
theorem op_next (hC:XH c0 F P) (ho:fopB c0 F f o=true) (htm:∀t∈F f,fvB c0 F (ev (.tmp t))=true) (hev:∀h,ev (.func h)=.func (.func h) #[] #[]) (hr:(execOp ev o).run P w=.ok n w1):OpOut c0 F f o n:=by
 obtain ⟨d,op,ty,pos,aft,gd⟩:=o
 unfold fopB at ho
 rw [Bool.and_eq_true] at ho
 obtain ⟨h1,h2⟩:=ho
 cases op with
 | makeFunc fn xs ys =>
   left
   unfold execOp at hr
   simp [Instr.makeFunc] at hr
   refine ⟨_,hr.1.symm,?_⟩
   by_cases hd:∀d',d=some d'→d'∉F f
   ·exact .inr hd
   ·left
    simp only [Classical.not_forall,Classical.not_not] at hd
    obtain ⟨d',rfl,hx⟩:=hd
    unfold qdc at h1
    have hx':(F f).contains d'=true:=by simpa using hx
    simp only [hx',Bool.not_true,Bool.false_or] at h1
    cases fn with
    | func g=>exact h1
    | _=>cases h1
 | move x =>
   left
   unfold execOp at hr
   simp at hr
   refine ⟨_,hr.1.symm,?_⟩
   by_cases hd:∀d',d=some d'→d'∉F f
   ·exact .inr hd
   ·left
    simp only [Classical.not_forall,Classical.not_not] at hd
    obtain ⟨d',rfl,hx⟩:=hd
    unfold qdc at h1
    have hx':(F f).contains d'=true:=by simpa using hx
    simp only [hx',Bool.not_true,Bool.false_or] at h1
    cases x with
    | tmp u=>exact htm u (by simpa using h1)
    | _=>cases h1
 | pick cc x y =>
   left
   have hnd:=Xw h1 (fun g xs ys e=>by cases e) (fun u e=>by cases e)
   unfold execOp at hr
   simp only [Sem.run_bind] at hr
   cases e:(asBool (ev cc)).run P w with
   | halt a b=>rw [e] at hr;simp at hr
   | ok v w2=>rw [e] at hr;simp at hr;exact ⟨_,hr.1.symm,.inr hnd⟩
 | call k =>
   have hnd:=Xw h1 (fun g xs ys e=>by cases e) (fun u e=>by cases e)
   obtain ⟨callee,args,ats⟩:=k
   unfold execOp at hr
   simp only at hr
   cases callee with
   | value x =>
     cases x with
     | func g =>
       simp only [Bool.and_eq_true,List.all_eq_true] at h2
       obtain ⟨hg,ha⟩:=h2
       right;right
       simp [resolve,Deferred.ofValue,hev,invoke] at hr
       have e:=Qg hC hg hr
       refine ⟨g,_,e,hg,fun t ht=>?_,hnd⟩
       have:=ha t ht
       unfold fargB at this
       have eg:(args.map ev).getD t undef=match args[t]? with | some x=>ev x | none=>undef:=by
        cases e:args[t]? with
        | none =>
          have:=Array.getElem?_eq_none_iff.1 e
          simp [Array.getD,Nat.not_lt.2 this]
        | some x =>
          obtain ⟨hl,hx⟩:=Array.getElem?_eq_some_iff.1 e
          simp [Array.getD,hl,hx]
       rw [eg]
       cases e:args[t]? with
       | none=>rfl
       | some x =>
         rw [e] at this
         cases x with
         | tmp u=>exact htm u (by simpa using this)
         | func h=>show fvB c0 F (ev (.func h))=true;rw [hev];exact this
         | _=>cases this
     | tmp u =>
       have hu:=htm u (by simpa using h2)
       right;right
       simp only [resolve] at hr
       cases e:ev (.tmp u) with
       | func fn first cap =>
         rw [e] at hu hr
         cases fn with
         | func g =>
           simp only [fvB,Bool.and_eq_true] at hu
           simp [Deferred.ofValue,invoke] at hr
           have e2:=Qg hC hu.1 hr
           refine ⟨g,_,e2,hu.1,fun t ht=>?_,hnd⟩
           have:=List.isEmpty_iff.1 hu.2
           rw [this] at ht;cases ht
         | _=>simp [fvB] at hu
       | nilFunc =>
         rw [e] at hr
         simp only [Deferred.ofValue,Sem.run_bind,Sem.run_pure,Result.andThen_ok,invoke] at hr
         obtain ⟨x,w2,e3,_⟩:=zy (α:=Next) .nilDeref P w
         rw [e3] at hr
         cases hr
       | _ =>
         rw [e] at hr
         simp [Deferred.ofValue,invoke,stuck] at hr
     | _=>simp at h2
   | builtin b =>
     left
     cases b <;> first
      | (simp at h2;done)
      | (simp only [resolve,Sem.run_bind,Sem.run_pure,Result.andThen_ok,invoke] at hr
         obtain ⟨v,e⟩:=qbq hr
         exact ⟨v,e,.inr hnd⟩)
   | _=>simp at h2
 | _=>first
   | (simp at h2;done)
   | (left
      have hnd:=Xw h1 (fun g xs ys e=>by cases e) (fun u e=>by cases e)
      unfold execOp at hr
      simp only at hr
      obtain ⟨v,e⟩:=qbq hr
      exact ⟨v,e,.inr hnd⟩)
   | (right;left
      unfold execOp at hr
      simp only at hr
      exact qeS hr)
   | (left
      have hnd:=Xw h1 (fun g xs ys e=>by cases e) (fun u e=>by cases e)
      unfold execOp at hr
      simp at hr
      exact ⟨_,hr.1.symm,.inr hnd⟩)
end
section
variable {K:Cfg} {c0:Nat→Bool} {F:Nat→List Nat} {P:Program} {c g:Nat→Bool} {base:List Frame} {q q1:Goroutine} {w w1:World} {es:Array Event}
theorem op_tame (Z:Cov K P P c g (fun _=>False)) {a:Frame} {k:List Frame} (hS:YH K P g { frame:=a,callers:=k,status:=.running,dying:=none } w) {ops:Array Oper} {i:Nat} {rest:List Nat} {kk:List Item} {o:Oper} (ht:a.todo=.inRegion ops (i :: rest) :: kk) (ho:ops[i]? = some o) {x:Halt} {w':World}
 (hr:(execOp a.eval o).run P w=.halt x w'):yZ x=true:=by
 obtain ⟨R,hg,h0,hn,hR⟩:=hS
 cases hg with
 | mk ha hk =>
   have hop:opB P c g o.op=true:=by
    have:=ha.todo
    rw [ht] at this
    cases this with
    | cons h1 h2 =>
      cases h1 with
      | inRegion id ops t hD =>
        have:=((Z.hD _ _).1 hD).2
        simp only [zz,Array.all_eq_true'] at this
        exact this o (Array.mem_of_getElem? ho)
   have hS:=qg.execOp (K:=K.at w'.drawn) (P':=P) (P:=P) (R:=R) (Z.at w'.drawn).toProgs Z.hc o hop (fun hR' x hxo=>ha.eval Z.hc hR hR' x hxo) (fun v=>rfl)
   have hwr:WR (K.at w'.drawn) R w w:=W0.wr h0 _ fun _ _ _=>rfl
   exact ((hS w w hwr).2.1 x w' hr (Nat.le_refl _)).2
theorem raise_md {a:Frame} {vs:List PanicEntry}:¬ ((a.raise vs).mode=.run∨(a.raise vs).mode=.returning):=by
 obtain ⟨ch,e⟩:=raise_mode a vs
 rw [e];simp
theorem ng_step (Z:Cov K P P c g (fun _=>False)) (hC:XH c0 F P) (hS:YH K P g q w) (hN:NG c0 F base q) (hl:¬ zZ base q) (hs:stepG P true q w=.go q1 w1 es) (hm:q1.frame.mode=.run∨q1.frame.mode=.returning):NG c0 F base q1:=by
 obtain ⟨a,k,st,dy,off⟩:=q
 obtain ⟨hF,⟨ks,hk,hks⟩,e1,e2,hmd⟩:=hN
 simp only at hF hk e1 e2 hmd
 subst e1 e2
 have hoff:off=none:=by
  obtain ⟨R,hg,_⟩:=hS
  cases hg;rfl
 subst hoff
 obtain ⟨fn,ts,td,ds,mode,kind,ro⟩:=a
 have hro:=hF.round
 have hds:=hF.defers
 have hkd:=hF.kind
 simp only at hro hds hkd
 subst hro hds hkd
 rcases hmd with hmd | hmd
 ·
  simp only at hmd
  subst hmd
  have toT:∀{td':List Item} {g1:Goroutine} {w2:World} {e:Array Event},(∀it∈td',it∈td∨Zi c0 F fn it=true)→GStep.go { frame:={ fn:=fn,tmps:=ts,todo:=td',defers:=[],mode:=.run,kind:=.normal,roundOf:=none },callers:=k,status:=.running,dying:=none } w e=.go g1 w2 es→NG c0 F base g1:=by
   intro td' g1 w2 e h1 h2
   cases h2
   exact ⟨⟨hF.fn,hF.tm,fun it hit=>(h1 it hit).elim (hF.todo it) id,rfl,rfl,rfl⟩,⟨ks,hk,hks⟩,rfl,rfl,.inl rfl⟩
  have leave:∀{g1:Goroutine} {w2:World} {e:Array Event},GStep.go { frame:={ fn:=fn,tmps:=ts,todo:=td,defers:=[],mode:=.returning,kind:=.normal,roundOf:=none },callers:=k,status:=.running,dying:=none } w e=.go g1 w2 es→NG c0 F base g1:=by
   intro g1 w2 e h2
   cases h2
   exact ⟨⟨hF.fn,hF.tm,hF.todo,rfl,rfl,rfl⟩,⟨ks,hk,hks⟩,rfl,rfl,.inr rfl⟩
  unfold stepG at hs
  simp only [stepG.exec] at hs
  cases td with
  | nil=>exact leave hs
  | cons it kk =>
    have h0:=hF.todo it (List.mem_cons_self ..)
    cases it with
    | code x =>
      cases x with
      | skip=>exact toT (fun it h=>.inl (List.mem_cons_of_mem _ h)) hs
      | label l=>exact toT (fun it h=>.inl (List.mem_cons_of_mem _ h)) hs
      | ret=>exact leave hs
      | seq x y =>
        simp only [Zi,xP,Bool.and_eq_true] at h0
        exact toT (fun it h=>by
         rcases List.mem_cons.1 h with rfl | h
         ·exact .inr h0.1
         ·rcases List.mem_cons.1 h with rfl | h
          ·exact .inr h0.2
          ·exact .inl (List.mem_cons_of_mem _ h)) hs
      | cond t x y =>
        simp only [Zi,xP,Bool.and_eq_true] at h0
        simp only at hs
        split at hs
        ·rename_i b _
         exact toT (fun it h=>by
          rcases List.mem_cons.1 h with rfl | h
          ·cases b
           ·exact .inr h0.2
           ·exact .inr h0.1
          ·exact .inl (List.mem_cons_of_mem _ h)) hs
        ·cases hs
      | block id x =>
        exact toT (fun it h=>by
         rcases List.mem_cons.1 h with rfl | h
         ·exact .inr h0
         ·rcases List.mem_cons.1 h with rfl | h
          ·exact .inr rfl
          ·exact .inl (List.mem_cons_of_mem _ h)) hs
      | loop x =>
        exact toT (fun it h=>by
         rcases List.mem_cons.1 h with rfl | h
         ·exact .inr h0
         ·rcases List.mem_cons.1 h with rfl | h
          ·exact .inr h0
          ·exact .inl (List.mem_cons_of_mem _ h)) hs
      | scope x =>
        exact toT (fun it h=>by
         rcases List.mem_cons.1 h with rfl | h
         ·exact .inr h0
         ·rcases List.mem_cons.1 h with rfl | h
          ·exact .inr rfl
          ·exact .inl (List.mem_cons_of_mem _ h)) hs
      | exit id =>
        cases e:exitTo id kk with
        | none=>simp [e] at hs
        | some k' =>
          simp only [e,Option.elim] at hs
          exact toT (fun it h=>.inl (List.mem_cons_of_mem _ (QL e it h))) hs
      | region id ops draw =>
        cases draw with
        | false =>
          exact toT (fun it h=>by
           rcases List.mem_cons.1 h with rfl | h
           ·exact .inr h0
           ·exact .inl (List.mem_cons_of_mem _ h)) hs
        | true =>
          simp only [Bool.not_true,Bool.false_eq_true,if_false] at hs
          split at hs
          ·simp only [GStep.go.injEq] at hs
           obtain ⟨rfl,_⟩:=hs
           refine ⟨⟨hF.fn,hF.tm,fun it h=>?_,rfl,rfl,rfl⟩,⟨ks,hk,hks⟩,rfl,rfl,.inl rfl⟩
           rcases List.mem_cons.1 h with rfl | h
           ·exact h0
           ·exact hF.todo it (List.mem_cons_of_mem _ h)
          ·cases hs
      | _=>simp [Zi,xP] at h0
    | inBlock id=>exact toT (fun it h=>.inl (List.mem_cons_of_mem _ h)) hs
    | inScope x=>exact toT (fun it h=>.inl (List.mem_cons_of_mem _ h)) hs
    | inLoop x =>
      exact toT (fun it h=>by
       rcases List.mem_cons.1 h with rfl | h
       ·exact .inr h0
       ·exact .inl h) hs
    | inRegion ops todo =>
      cases todo with
      | nil=>exact toT (fun it h=>.inl (List.mem_cons_of_mem _ h)) hs
      | cons i rest =>
        simp only at hs
        split at hs
        ·rename_i hwt
         obtain ⟨o,ho⟩:∃o,ops[i]? = some o:=by
          cases e:ops[i]? with
          | none=>rw [e] at hwt;simp at hwt
          | some o=>exact ⟨o,rfl⟩
         have hfo:fopB c0 F fn o=true:=by
          have:=h0
          simp only [Zi,Array.all_eq_true'] at this
          exact this o (Array.mem_of_getElem? ho)
         have htame:=fun x w' hr=>op_tame Z hS (rest:=rest) (kk:=kk) rfl ho (x:=x) (w':=w') hr
         unfold stepG.oper at hs
         simp only [Frame.oper?,ho] at hs
         unfold stepG.apply at hs
         simp only [Sem.runT_eq,if_true] at hs
         cases e:(execOp (Frame.eval { fn:=fn,tmps:=ts,todo:=.inRegion ops (i :: rest) :: kk,defers:=[],mode:=.run,kind:=.normal,roundOf:=none }) o).run P w with
         | halt x y =>
           rw [e] at hs
           have ht:=htame x y e
           cases x with
           | panic v =>
             simp only [GStep.after,GStep.go.injEq] at hs
             obtain ⟨rfl,_⟩:=hs
             exact absurd hm raise_md
           | stuck m=>simp [GStep.after] at hs
           | unsupported u =>
             cases u <;> first
              | (simp [GStep.after] at hs;done)
              | (simp [yZ] at ht;done)
           | _=>simp [yZ] at ht
         | ok n y =>
           rw [e] at hs
           rcases op_next hC hfo hF.tm (fun h=>rfl) e with ⟨v,rfl,hv⟩ | rfl | ⟨g2,xs,rfl,hg2,hxs,hd2⟩
           ·simp only [GStep.after,GStep.go.injEq] at hs
            obtain ⟨rfl,_⟩:=hs
            refine ⟨hF.finish (hv.imp id fun h o' ho'=>?_),⟨ks,hk,hks⟩,rfl,rfl,.inl rfl⟩
            rw [show (Frame.oper? { fn:=fn,tmps:=ts,todo:=.inRegion ops (i :: rest) :: kk,defers:=[],mode:=.run,kind:=.normal,roundOf:=none })=ops[i]? from rfl,ho] at ho'
            obtain rfl:=Option.some.inj ho'
            exact h
           ·simp only [GStep.after,GStep.go.injEq] at hs
            obtain ⟨rfl,_⟩:=hs
            exact ⟨hF.finish (.inl rfl),⟨ks,hk,hks⟩,rfl,rfl,.inl rfl⟩
           ·simp only [GStep.after,GStep.go.injEq] at hs
            obtain ⟨rfl,_⟩:=hs
            refine ⟨NFr.enter hC hg2 hxs,⟨_ :: ks,by rw [hk];rfl,fun b hb=>?_⟩,rfl,rfl,.inl rfl⟩
            rcases List.mem_cons.1 hb with rfl | hb
            ·refine ⟨hF,fun o' ho'=>?_⟩
             rw [show (Frame.oper? { fn:=fn,tmps:=ts,todo:=.inRegion ops (i :: rest) :: kk,defers:=[],mode:=.run,kind:=.normal,roundOf:=none })=ops[i]? from rfl,ho] at ho'
             obtain rfl:=Option.some.inj ho'
             exact hd2
            ·exact hks b hb
        ·simp only [GStep.go.injEq] at hs
         obtain ⟨rfl,_⟩:=hs
         have hfin:=hF.finish (v:=undef) (.inl rfl)
         exact ⟨hfin,⟨ks,hk,hks⟩,rfl,rfl,.inl rfl⟩
    | _=>simp [Zi] at h0
 ·
  simp only at hmd
  subst hmd
  have hne:ks≠[]:=fun e=>hl ⟨rfl,rfl,by rw [hk,e];rfl⟩
  obtain ⟨b,kr,rfl⟩:∃b kr,ks=b :: kr:=by
   cases ks with
   | nil=>exact absurd rfl hne
   | cons b kr=>exact ⟨b,kr,rfl⟩
  subst hk
  unfold stepG at hs
  simp only [unwind] at hs
  obtain ⟨fn',x',hf1,_⟩:=hC fn hF.fn
  simp only [hf1,Sem.runT_eq] at hs
  have hb:=hks b (List.mem_cons_self ..)
  cases e:(results fn' ts).run P w with
  | halt x y=>rw [e] at hs;cases x <;> simp [GStep.after] at hs
  | ok v y =>
    rw [e] at hs
    simp only [doReturn,List.cons_append,GStep.after,GStep.go.injEq] at hs
    obtain ⟨rfl,_⟩:=hs
    exact ⟨hb.toNFr.finish (.inr hb.pend),⟨kr,rfl,fun a ha=>hks a (List.mem_cons_of_mem _ ha)⟩,rfl,rfl,hm⟩
end
theorem YH.tp {K:Cfg} {P:Program} {g:Nat→Bool} {q:Goroutine} {w:World} (h:YH K P g q w) (t:Nat→Question→Nat):YH K P g q (w.tp t):=by
 obtain ⟨R,hg,hw,hn,hR⟩:=h
 exact ⟨R,hg,⟨hw.fn,hw.inj,hw.obj,hw.fz,hw.glob,hw.big,hw.big'⟩,hn,hR⟩
end Go.Sim
section
namespace Go.Sim
open Go Go.Instr Go.Conc
open Go.ConcN (sumTo upd sumTo_upd upd_ne upd_same)
def Yv (Bx:Nat→Prop):Loc→Prop
 | .cell a=>Bx a.block
 | .obj r=>Bx r
 | _=>False
def zL (Bx:Nat→Prop) (w w1:World):Prop:=∀b,Bx b→w1.heap[b]? = w.heap[b]?
def EvB (Bx:Nat→Prop) (e:Event):Prop:=(∀x,(MemAct.ofEvent e).touch? = some x→Yv Bx x.loc∧x.write=false)∧e.loc≠.mark .disable∧e.loc≠.mark .enable∧∀B,(∀b,Bx b→b < B)→(MemAct.ofEvent e).low B
section
variable (P:Program) (Bx:Nat→Prop) (ch:Nat) (z:Value) (ok:Bool) (Q:Goroutine→World→Prop)
inductive Stand:Nat→Goroutine→World→Prop
 | parked {g0:Goroutine} {w:World}:(∀w1,zL Bx w w1→Q g0 w1)→Stand 0 (parked (core g0) #[rcase ch z] (.recv ok)) w
 | ready {a:Goroutine} {w:World}:a.status=.running→(∀w1,zL Bx w w1→Q a w1∧stepG P true a w1=.comm (core a) #[rcase ch z] true (.recv ok) w1 #[])→Stand 1 a w
 | step {n:Nat} {a:Goroutine} {w:World} (f:World→Goroutine) (dd:World→Nat) (ee:World→Array Event):a.status=.running→(∀w1,zL Bx w w1→stepG P true a w1=.go (f w1) (w1.at (dd w1)) (ee w1)∧∀e∈ee w1,EvB Bx e)→(∀w1,zL Bx w w1→Stand (n+1) (f w1) w1)→Stand (n+2) a w
end
section
variable {P:Program} {Bx:Nat→Prop} {ch:Nat} {z:Value} {ok:Bool} {Q:Goroutine→World→Prop} {n:Nat} {a:Goroutine} {w w1:World}
theorem zL.trans {w2:World} (h:zL Bx w w1) (k:zL Bx w1 w2):zL Bx w w2:=fun b hb=>(k b hb).trans (h b hb)
theorem Stand.keep (h:Stand P Bx ch z ok Q n a w) (k:zL Bx w w1):Stand P Bx ch z ok Q n a w1:=by
 cases h with
 | parked hq=>exact .parked fun w2 k2=>hq w2 (k.trans k2)
 | ready hr hq=>exact .ready hr fun w2 k2=>hq w2 (k.trans k2)
 | step f dd ee hr hs hn=>exact .step f dd ee hr (fun w2 k2=>hs w2 (k.trans k2)) fun w2 k2=>hn w2 (k.trans k2)
theorem Stand.woken {x x':Goroutine} {s r:Nat} {tm:Bool} (h:Stand P Bx ch z ok Q n a w) (hc:w1.heap[ch]? = some (.chan 0 #[] false s r tm)):woken P x x' w1 a=a:=by
 cases h with
 | parked hq=>exact woken_recv_open _ _ hc
 | ready hr _=>exact woken_run hr
 | step _ _ _ hr _ _=>exact woken_run hr
theorem Stand.awake (h:Stand P Bx ch z ok Q n a w):awake a:=by
 cases h with
 | parked hq=>intro t h;cases h
 | ready hr _=>exact awake_of (.inl hr)
 | step _ _ _ hr _ _=>exact awake_of (.inl hr)
end
structure RMJ (P:Program) (S Bx:Nat→Prop) (ch:Nat) (z:Value) (ok:Bool) (Q:Goroutine→World→Prop) (j:Nat) (gs:Array Goroutine) (a:Goroutine) (w':World) (t:Trace) (m:Nat) (qq:Nat→Nat):Prop where
 here:gs[j]? = some a
 jpos:0 < j
 zero:∃a0,gs[0]? = some a0∧Stand P Bx ch z ok Q m a0 w'
 old:∀i g,0 < i→i≠j→gs[i]? = some g→QuitsD P (qq i) (Deaf t i) g
 above:∀i,gs.size≤i→Deaf t i=0
 past:PastJ (zA S) (Yv Bx) j w'.heap.size t
 nums:∀(i:Nat) (op:MemOp),t[i]? = some op→op.g < gs.size
 bx:∀b,Bx b→b < w'.heap.size
 chan:Bx ch∧∃s tm,w'.heap[ch]? = some (.chan 0 #[] false s s tm)
section
variable {P:Program} {K Ks:Cfg} {c g:Nat→Bool} {bs:Bs} {P':Program} {Fin:Goroutine→World→Prop}
variable {S Bx:Nat→Prop} {ch:Nat} {z:Value} {ok:Bool} {Q:Goroutine→World→Prop} {j:Nat}
theorem RMJ.awake {gs:Array Goroutine} {a:Goroutine} {w':World} {t:Trace} {m:Nat} {qq:Nat→Nat} (h:RMJ P S Bx ch z ok Q j gs a w' t m qq) (hrun:a.status=.running):∀x∈gs,Conc.awake x:=by
 intro x hx
 obtain ⟨i,hi,rfl⟩:=Array.mem_iff_getElem.1 hx
 by_cases e0:i=0
 ·subst e0
  obtain ⟨a0,h0,hs⟩:=h.zero
  have:gs[0]=a0:=by simpa [Array.getElem?_eq_getElem hi] using h0
  rw [this];exact hs.awake
 ·by_cases ej:i=j
  ·subst ej
   have:gs[i]=a:=by simpa [Array.getElem?_eq_getElem hi] using h.here
   rw [this];exact awake_of (.inl hrun)
  ·exact awake_of ((h.old i _ (by omega) ej (Array.getElem?_eq_getElem hi)).status.elim .inl fun x=>.inr (.inr x))
theorem RMJ.slip {gs:Array Goroutine} {a:Goroutine} {w':World} {t:Trace} {m:Nat} {qq:Nat→Nat} (hR:RMJ P S Bx ch z ok Q j gs a w' t m qq) (hrun:a.status=.running) {i d:Nat} {x:Goroutine} {sl':Option (Nat×Nat)} (hi:gs[i]? = some x) (hx:x.status=.running) (ej:i≠j) :
 ∃gs2 t2 d2 m2 qq2,runT P (crowd gs (w'.at d) sl') i=(.next (crowd gs2 (w'.at d2) sl'),t2)∧m2+sumTo gs2.size qq2 < m+sumTo gs.size qq∧RMJ P S Bx ch z ok Q j gs2 a (w'.at d2) (t ++ t2) m2 qq2:=by
 have hltj:j < gs.size:=(Array.getElem?_eq_some_iff.1 hR.here).1
 have hlt0:0 < gs.size:=by omega
 obtain ⟨hbch,cs,ctm,hch⟩:=hR.chan
 obtain ⟨a0,h0,hS0⟩:=hR.zero
 have hj0:j≠0:=by have:=hR.jpos;omega
 have hlt:i < gs.size:=(Array.getElem?_eq_some_iff.1 hi).1
 by_cases e0:i=0
 ·subst e0
  obtain rfl:x=a0:=by rw [h0] at hi;exact (Option.some.inj hi).symm
  have hkd:zL Bx w' (w'.at d):=fun _ _=>rfl
  cases hS0 with
  | parked hq=>cases hx
  | ready hr hq =>
    obtain ⟨_,hcomm⟩:=hq (w'.at d) hkd
    have hp:partners (gs.setIfInBounds 0 ph) ch true=[]:=by
     refine List.eq_nil_iff_forall_not_mem.2 fun ⟨k,n⟩ hm=>?_
     obtain ⟨y,hy,ho⟩:=mem_partners.1 hm
     rcases getElem?_stand gs 0 k y hy with ⟨_,rfl⟩ | ⟨hk,hy⟩
     ·rw [offersAt_ph] at ho;cases ho
     ·have:y.status≠.blocked:=by
       by_cases ek:k=j
       ·subst ek
        rw [hR.here] at hy;cases hy
        rw [hrun];simp
       ·rcases (hR.old k y (by omega) ek hy).status with e | e <;> rw [e] <;> simp
      rw [offersAt_of_not_blocked this] at ho;cases ho
    have hr1:=crowd_waits (sl:=sl') hi (show stepG P (0 == 0) x (w'.at d)=_ from hcomm) (fun cc hcc=>by
     simp at hcc;subst hcc
     exact ways_recv_none (show (w'.at d).heap[ch]? = _ from hch) hp)
    have hnil:MemOp.ofEvents 0 x.frame.fn x.frame.place #[]=#[]:=by rw [ofEvents_eq];simp
    rw [hnil] at hr1
    refine ⟨_,#[],d,0,qq,hr1,by simp,?_⟩
    rw [Array.append_empty]
    exact ⟨by rw [Array.getElem?_setIfInBounds_ne (Ne.symm hj0)];exact hR.here,hR.jpos,⟨_,Array.getElem?_setIfInBounds_self_of_lt hlt,.parked fun w1 k1=>(hq w1 k1).1⟩,fun k y hk hkj hy=>by
     rw [Array.getElem?_setIfInBounds_ne (by omega)] at hy
     exact hR.old k y hk hkj hy,fun k hk=>hR.above k (by simpa using hk),hR.past,fun k op hop=>by simpa using hR.nums k op hop,hR.bx,hR.chan⟩
  | @step n' _ _ f dd ee hr hs hn =>
    obtain ⟨hgo,hev⟩:=hs (w'.at d) hkd
    have hst':=hn (w'.at d) hkd
    generalize f (w'.at d)=a' at *
    generalize dd (w'.at d)=d' at *
    generalize ee (w'.at d)=es at *
    have hrunT:=runT_crowd_go (P:=P) (sl:=sl') (i:=0) hi (show stepG P (0 == 0) x (w'.at d)=_ from hgo)
    have hown:∀op∈MemOp.ofEvents 0 x.frame.fn x.frame.place es,op.g=0:=fun op hop=>by obtain ⟨_,_,rfl⟩:=Go.Conc.mem_ofEvents hop;rfl
    refine ⟨_,_,d',n'+1,qq,hrunT,by simp,?_⟩
    refine ⟨?_,hR.jpos,⟨a',Array.getElem?_setIfInBounds_self_of_lt (by simpa using hlt),hst'.keep fun _ _=>rfl⟩,fun k y hk hkj hy=>?_,fun k hk=>?_,?_,qV hR.nums (by simp) (fun op hop=>by rw [hown op hop];simpa using hlt),hR.bx,hR.chan⟩
    ·rw [Array.getElem?_setIfInBounds_ne (Ne.symm hj0),Array.getElem?_map,hR.here,Option.map_some,woken_run hrun]
    ·rw [Array.getElem?_setIfInBounds_ne (by omega),Array.getElem?_map] at hy
     obtain ⟨v,hv,rfl⟩:=Option.map_eq_some_iff.1 hy
     have hq:=hR.old k v hk hkj hv
     rw [woken_quitsD hq,Deaf_other t (by omega) _ hown]
     exact hq
    ·rw [Deaf_other t (g':=0) (by simp at hk;omega) _ hown]
     exact hR.above k (by simpa using hk)
    ·refine hR.past.zero hj0 hown (fun op hop b hb=>?_) ?_ (fun op hop=>?_)
     ·obtain ⟨ev,hev',rfl⟩:=Go.Conc.mem_ofEvents hop
      exact (hev ev hev').1 b hb
     ·rw [Deaf_own,deafBehind_still fun ev hev'=>⟨(hev ev hev').2.1,(hev ev hev').2.2.1⟩]
      exact hR.past.hears
     ·obtain ⟨ev,hev',rfl⟩:=Go.Conc.mem_ofEvents hop
      exact (hev ev hev').2.2.2 _ hR.bx
 ·
  have hq1:=hR.old i x (by omega) ej hi
  have hi0:(i == 0)=false:=by simp;omega
  cases hqi:qq i with
  | zero=>rw [hqi] at hq1;rw [hq1.1] at hx;cases hx
  | succ k =>
    rw [hqi] at hq1
    rcases hq1 with ⟨hf,_⟩ | ⟨_,g',es,hm,hstp,hq'⟩
    ·rw [hf] at hx;cases hx
    have hrunT:=runT_crowd_go (P:=P) (sl:=sl') (i:=i) hi (by rw [hi0];exact hstp (w'.at d))
    have hsum:sumTo gs.size (upd qq i k)+(k+1)=sumTo gs.size qq+k:=by
     have:=sumTo_upd qq k id hlt
     simpa [hqi] using this
    have hown:∀op∈MemOp.ofEvents i x.frame.fn x.frame.place es,op.g=i:=fun op hop=>by obtain ⟨_,_,rfl⟩:=Go.Conc.mem_ofEvents hop;rfl
    refine ⟨_,_,d,m,upd qq i k,hrunT,by simp;omega,?_⟩
    refine ⟨?_,hR.jpos,⟨a0,?_,hS0.keep fun _ _=>rfl⟩,fun k' y hk hkj hy=>?_,fun k' hk=>?_,?_,qV hR.nums (by simp) (fun op hop=>by rw [hown op hop];simpa using hlt),hR.bx,hR.chan⟩
    ·rw [Array.getElem?_setIfInBounds_ne ej,Array.getElem?_map,hR.here,Option.map_some,woken_run hrun]
    ·rw [Array.getElem?_setIfInBounds_ne e0,Array.getElem?_map,h0,Option.map_some,hS0.woken (show (w'.at d).heap[ch]? = _ from hch)]
    ·by_cases hji:i=k'
     ·subst hji
      rw [Array.getElem?_setIfInBounds_self_of_lt (by simpa using hlt)] at hy
      obtain rfl:=Option.some.inj hy
      rw [upd_same,Deaf_own]
      exact hq'
     ·rw [Array.getElem?_setIfInBounds_ne hji,Array.getElem?_map] at hy
      obtain ⟨v,hv,rfl⟩:=Option.map_eq_some_iff.1 hy
      have hqj:=hR.old k' v hk hkj hv
      rw [woken_quitsD hqj,upd_ne qq k (Ne.symm hji),Deaf_other t hji _ hown]
      exact hqj
    ·rw [Deaf_other t (g':=i) (by simp at hk;omega) _ hown]
     exact hR.above k' (by simpa using hk)
    ·refine hR.past.quiet hown (fun op hop=>?_) ?_ ?_ (fun op hop=>?_)
     ·obtain ⟨ev,hev,rfl⟩:=Go.Conc.mem_ofEvents hop
      exact touch_mute (hm ev hev)
     ·rw [Deaf_other t e0 _ hown]
      exact hR.past.hears
     ·rw [Deaf_other t ej _ hown]
      exact hR.past.hears'
     ·obtain ⟨ev,hev,rfl⟩:=Go.Conc.mem_ofEvents hop
      exact low_mute (hm ev hev) _
theorem RMJ.own {gs:Array Goroutine} {a a1:Goroutine} {w' w1':World} {t:Trace} {m d:Nat} {qq:Nat→Nat} {es':Array Event} (hR:RMJ P S Bx ch z ok Q j gs a w' t m qq) (hgo:stepG P false a (w'.at d)=.go a1 w1' es') (hsz:w'.heap.size≤w1'.heap.size) (hkeep:zL Bx w' w1')
 (hevs:∀ev∈es',EvL (zA S) w1'.heap.size ev) (hevb:∀ev∈es',∀y,(MemAct.ofEvent ev).touch? = some y→Yv Bx y.loc→y.write=false) (sl':Option (Nat×Nat)) :
 ∃gs2,runT P (crowd gs (w'.at d) sl') j=(.next (crowd gs2 w1' sl'),MemOp.ofEvents j a.frame.fn a.frame.place es')∧gs2.size=gs.size∧RMJ P S Bx ch z ok Q j gs2 a1 w1' (t ++ MemOp.ofEvents j a.frame.fn a.frame.place es') m qq:=by
 have hltj:j < gs.size:=(Array.getElem?_eq_some_iff.1 hR.here).1
 obtain ⟨hbch,cs,ctm,hch⟩:=hR.chan
 obtain ⟨a0,h0,hS0⟩:=hR.zero
 have hj0:j≠0:=by have:=hR.jpos;omega
 have hi0:(j == 0)=false:=by simp;omega
 have hrunT:=runT_crowd_go (P:=P) (sl:=sl') (i:=j) hR.here (show stepG P (j == 0) a (w'.at d)=_ by rw [hi0];exact hgo)
 have hown:∀op∈MemOp.ofEvents j a.frame.fn a.frame.place es',op.g=j:=fun op hop=>by obtain ⟨_,_,rfl⟩:=Go.Conc.mem_ofEvents hop;rfl
 refine ⟨_,hrunT,by simp,?_⟩
 refine ⟨by simp [hltj],hR.jpos,⟨a0,?_,hS0.keep hkeep⟩,fun k y hk hkj hy=>?_,fun k hk=>?_,?_,qV hR.nums (by simp) (fun op hop=>by rw [hown op hop];simpa using hltj),fun b hb=>Nat.lt_of_lt_of_le (hR.bx b hb) hsz,⟨hbch,cs,ctm,(hkeep ch hbch).trans hch⟩⟩
 ·rw [Array.getElem?_setIfInBounds_ne hj0,Array.getElem?_map,h0,Option.map_some,hS0.woken ((hkeep ch hbch).trans hch)]
 ·rw [Array.getElem?_setIfInBounds_ne (Ne.symm hkj),Array.getElem?_map] at hy
  obtain ⟨v,hv,rfl⟩:=Option.map_eq_some_iff.1 hy
  have hq:=hR.old k v hk hkj hv
  rw [woken_quitsD hq,Deaf_other t (Ne.symm hkj) _ hown]
  exact hq
 ·rw [Deaf_other t (g':=j) (by simp at hk;omega) _ hown]
  exact hR.above k (by simpa using hk)
 ·refine (hR.past.mono hsz).app hown (fun op hop b hb=>?_) ?_ ?_ (fun op hop=>?_)
  ·obtain ⟨ev,hev,rfl⟩:=Go.Conc.mem_ofEvents hop
   exact ⟨(hevs ev hev).1 b hb,hevb ev hev b hb⟩
  ·rw [Deaf_own,deafBehind_still fun ev hev=>⟨(hevs ev hev).2.1,(hevs ev hev).2.2.1⟩]
   exact hR.past.hears'
  ·rw [Deaf_other t hj0 _ hown]
   exact hR.past.hears
  ·obtain ⟨ev,hev,rfl⟩:=Go.Conc.mem_ofEvents hop
   exact (hevs ev hev).2.2.2
theorem RMJ.walk {D:World→World→Array Event→Prop} {Stop:Goroutine→World→Prop} (hD:∀w w' es,D w w' es→w.heap.size≤w'.heap.size∧zL Bx w w'∧∀e∈es,EvL (zA S) w'.heap.size e∧∀y,(MemAct.ofEvent e).touch? = some y→Yv Bx y.loc→y.write=false) :
 ∀(M n:Nat) (gs:Array Goroutine) (a:Goroutine) (w':World) (sl:Option (Nat×Nat)) (t:Trace) (m:Nat) (qq:Nat→Nat),n+(m+sumTo gs.size qq)≤M→RMJ P S Bx ch z ok Q j gs a w' t m qq→Goes P false AtRel D Stop n a w' →
  ∃(N:Nat) (gs1:Array Goroutine) (a1:Goroutine) (w1':World) (sl1:Option (Nat×Nat)) (t1:Trace) (m1:Nat) (qq1:Nat→Nat),runNT P N (crowd gs w' sl) t=(.next (crowd gs1 w1' sl1),t1)∧Stop a1 w1'∧RMJ P S Bx ch z ok Q j gs1 a1 w1' t1 m1 qq1:=by
 intro M
 induction M with
 | zero =>
   intro n gs a w' sl t m qq hM hR hG
   obtain rfl:n=0:=by omega
   exact ⟨0,gs,a,w',sl,t,m,qq,rfl,hG w' (atRel_refl w'),hR⟩
 | succ M ih =>
   intro n gs a w' sl t m qq hM hR hG
   cases n with
   | zero=>exact ⟨0,gs,a,w',sl,t,m,qq,rfl,hG w' (atRel_refl w'),hR⟩
   | succ n =>
     rcases hG with hstop | ⟨hrun,hstep⟩
     ·exact ⟨0,gs,a,w',sl,t,m,qq,rfl,hstop w' (atRel_refl w'),hR⟩
     obtain ⟨i,x,d,sl',hi,hx,hst⟩:=crowd_pick (P:=P) (w:=w') (sl:=sl) (hR.awake hrun) ⟨j,a,hR.here,hrun⟩
     by_cases ej:i=j
     ·subst ej
      obtain rfl:x=a:=by rw [hR.here] at hi;exact (Option.some.inj hi).symm
      have hs:=hstep (w'.at d) ⟨d,rfl⟩
      cases hgo:stepG P false x (w'.at d) with
      | go a1 w1' es =>
        rw [hgo,goes_go] at hs
        obtain ⟨hd,hG'⟩:=hs
        obtain ⟨d1,d2,d3⟩:=hD _ _ _ hd
        obtain ⟨gs2,h1,h2,h3⟩:=hR.own hgo d1 d2 (fun e he=>(d3 e he).1) (fun e he=>(d3 e he).2) sl'
        obtain ⟨N,gs1,a2,w2,sl2,t2,m2,qq2,r1,r2,r3⟩:=ih n gs2 a1 w1' sl' _ m qq (by rw [h2];omega) h3 hG'
        exact ⟨N+1,gs1,a2,w2,sl2,t2,m2,qq2,by simp only [runNT,hst,h1];exact r1,r2,r3⟩
      | _=>rw [hgo] at hs;exact hs.elim
     ·obtain ⟨gs2,t2,d2,m2,qq2,h1,h2,h3⟩:=hR.slip hrun (d:=d) (sl':=sl') hi hx ej
      have hG2:Goes P false AtRel D Stop (n+1) a (w'.at d2):=.inr ⟨hrun,fun w2 h=>hstep w2 (atRel_trans _ _ _ ⟨d2,rfl⟩ h)⟩
      obtain ⟨N,gs1,a2,w2,sl2,t3,m3,qq3,r1,r2,r3⟩:=ih (n+1) gs2 a (w'.at d2) sl' _ m2 qq2 (by omega) h3 hG2
      exact ⟨N+1,gs1,a2,w2,sl2,t3,m3,qq3,by simp only [runNT,hst,h1];exact r1,r2,r3⟩
theorem kid_step {Sp:FuncId→Prop} {c0:Nat→Bool} {F:Nat→List Nat} (Z:Cov K P' P c g Sp) (Zs:Cov Ks P' P' c g (fun _=>False)) (hC:XH c0 F P') (hSp:∀f,Sp f→c0 f=false) {q:Goroutine} {w:World} (hT:LT P' true Fin q w) {R:Nat→Nat→Prop} {a:Goroutine} (hG:GR K P' P bs R q a) (hN:NG c0 F bs.src q) (hla:¬ zZ bs.src q) (hbx:∀b c,R b c→¬ Bx c) :
 ∀(M:Nat) (gs:Array Goroutine) (w':World) (sl:Option (Nat×Nat)) (t:Trace) (m:Nat) (qq:Nat→Nat),m+sumTo gs.size qq≤M→MS K Ks P' P g S R q w w'→RMJ P S Bx ch z ok Q j gs a w' t m qq →
  ∃(N:Nat) (R1:Nat→Nat→Prop) (q1:Goroutine) (w1:World) (gs1:Array Goroutine) (a1:Goroutine) (w1':World) (sl1:Option (Nat×Nat)) (t1:Trace) (m1:Nat) (qq1:Nat→Nat),
   runNT P N (crowd gs w' sl) t=(.next (crowd gs1 w1' sl1),t1)∧yD P' q w q1 w1∧GR K P' P bs R1 q1 a1∧MS K Ks P' P g S R1 q1 w1 w1'∧RMJ P S Bx ch z ok Q j gs1 a1 w1' t1 m1 qq1∧Ext0 K R R1 w w' w1 w1'∧NG c0 F bs.src q1:=by
 have hl:¬ Leaves q:=hG.not_leaves hla
 intro M
 induction M using Nat.strongRecOn with
 | _ M ihM =>
 intro gs w' sl t m qq hq hM hR
 have hrun:a.status=.running:=by cases hG;rfl
 obtain ⟨i,x,d,sl',hi,hx,hst⟩:=crowd_pick (P:=P) (w:=w') (sl:=sl) (hR.awake hrun) ⟨j,a,hR.here,hrun⟩
 have hltj:j < gs.size:=(Array.getElem?_eq_some_iff.1 hR.here).1
 have hlt0:0 < gs.size:=by omega
 obtain ⟨hbch,cs,ctm,hch⟩:=hR.chan
 obtain ⟨a0,h0,hS0⟩:=hR.zero
 have hj0:j≠0:=by have:=hR.jpos;omega
 have hMd:MS K Ks P' P g S R q w (w'.at d):=⟨⟨hM.w0.fn,hM.w0.inj,hM.w0.obj,hM.w0.fz,hM.w0.glob,hM.w0.big,hM.w0.big'⟩,hM.nd,hM.self,hM.glob,hM.shun,hM.low,hM.keep⟩
 by_cases ej:i=j
 ·subst ej
  obtain rfl:x=a:=by rw [hR.here] at hi;exact (Option.some.inj hi).symm
  let τ:Nat→Question→Nat:=fun n z=>w'.tape (d+(n - w.drawn)) z
  obtain ⟨q1,w1,es,hs⟩:∃q1 w1 es,stepG P' true q (w.tp τ)=.go q1 w1 es:=by
   cases hT with
   | fin h _=>exact absurd h hl
   | step _ nx h1 _=>obtain ⟨es,e,_⟩:=h1 τ;exact ⟨_,_,es,e⟩
  obtain ⟨hnb,hT1⟩:=hT.child hl hs
  have hwr:WR (K.at w1.drawn) R (w.tp τ) (w'.at d):=W0.wr (⟨hM.w0.fn,hM.w0.inj,hM.w0.obj,hM.w0.fz,hM.w0.glob,hM.w0.big,hM.w0.big'⟩:W0 K R (w.tp τ) (w'.at d)) _ fun k z _=>by
   show w'.tape (d+k) z=w'.tape (d+(w.drawn+k - w.drawn)) z
   rw [Nat.add_sub_cancel_left]
  obtain ⟨hn1,hst1⟩:=jf (m':=false) (Z.at _) (show yE (w.tp τ) from hM.nd) hwr hM.glob (hG.at _) hla hs rfl
  rcases hst1 with hb | ⟨R1,a1,w1',es',e,hg1,hw1,hx1,hv1⟩
  ·exact absurd hb hnb
  have hself:YH Ks P' g q1 w1:=(hM.self.turn Zs hl τ hs).2 hnb
  have hX:Ext0 K R R1 w w' w1 w1':=Ext.e0 hx1.un
  have hshun:∀b c,R1 b c→¬ S c:=fun b c hr hc=>by
   rcases hX.new b c hr with h | ⟨_,h⟩
   ·exact hM.shun b c h hc
   ·have:=hM.low c hc
    omega
  have hbx1:∀b c,R1 b c→¬ Bx c:=fun b c hr hc=>by
   rcases hX.new b c hr with h | ⟨_,h⟩
   ·exact hbx b c h hc
   ·have:=hR.bx c hc
    omega
  have hkeep:zL Bx w' w1':=fun b hb=>hX.stay b (hR.bx b hb) fun b' hr=>absurd hb (hbx b' b hr)
  have hlow:∀b c,R1 b c→c < w1'.heap.size:=fun b c hr=>by
   obtain ⟨_,o',_,h2,_⟩:=hw1.obj b c hr
   exact (Array.getElem?_eq_some_iff.1 h2).1
  have hmd:q1.frame.mode=.run∨q1.frame.mode=.returning:=by
   rcases hg1 with h | ⟨f,xs,xs',k,k',_,_,_,rfl,_⟩
   ·cases h with
    | mk hf _=>exact hf.mode.imp (·.1) (·.1)
   ·exact .inl rfl
  have hN1:NG c0 F bs.src q1:=ng_step Zs hC (hM.self.tp τ) hN hla hs hmd
  have hg1':GR K P' P bs R1 q1 a1:=by
   rcases hg1 with h | ⟨f,xs,xs',k,k',hf,_,_,rfl,_⟩
   ·exact h.un
   ·exfalso
    have:=hN1.fr.fn
    rw [show (Frame.enter P' f xs .normal).fn=f from rfl,hSp f hf] at this
    cases this
  have hevs:∀ev∈es',EvL (zA S) w1'.heap.size ev:=fun ev hev=>qaS (hv1 ev hev) hshun hlow
  have hevb:∀ev∈es',∀y,(MemAct.ofEvent ev).touch? = some y→¬ Yv Bx y.loc:=fun ev hev y hy hb=>by
   cases (hv1 ev hev) with
   | cell ad wr b hr _ =>
     have e1:MemAct.ofEvent ⟨.cell ad,wr,false⟩=.access ⟨.cell ad,wr,false⟩:=by cases wr <;> rfl
     rw [e1] at hy
     simp only [MemAct.touch?,Option.some.injEq] at hy
     subst hy
     exact hbx1 _ _ hr hb
   | obj r wr b hr _ =>
     have e1:MemAct.ofEvent ⟨.obj r,wr,false⟩=.access ⟨.obj r,wr,false⟩:=by cases wr <;> rfl
     rw [e1] at hy
     simp only [MemAct.touch?,Option.some.injEq] at hy
     subst hy
     exact hbx1 _ _ hr hb
   | room=>simp [MemAct.ofEvent,MemAct.touch?] at hy
  obtain ⟨gs2,h1,h2,h3⟩:=hR.own e hX.size' hkeep hevs (fun ev hev y hy hb=>absurd hb (hevb ev hev y hy)) sl'
  exact ⟨1,R1,q1,w1,gs2,a1,w1',sl',_,m,qq,by simp only [runNT,hst,h1],⟨τ,q1,w1,es,hl,hs,.refl _ _⟩,hg1',⟨hw1.w0,hn1,hself,fun n hn=>hX.le _ _ (hM.glob n hn),hshun,fun c hc=>Nat.lt_of_lt_of_le (hM.low c hc) hX.size',ZA hM.keep hM.w0 hX⟩,h3,hX,hN1⟩
 ·
  obtain ⟨gs2,t2,d2,m2,qq2,h1,h2,h3⟩:=hR.slip hrun (d:=d) (sl':=sl') hi hx ej
  have hMd2:MS K Ks P' P g S R q w (w'.at d2):=⟨⟨hM.w0.fn,hM.w0.inj,hM.w0.obj,hM.w0.fz,hM.w0.glob,hM.w0.big,hM.w0.big'⟩,hM.nd,hM.self,hM.glob,hM.shun,hM.low,hM.keep⟩
  obtain ⟨N,R1,q1,w1,gs1,a1,w1',sl1,t1,m1,qq1,r1,r2,r3,r4,r5,r6,r7⟩:=ihM (m2+sumTo gs2.size qq2) (by omega) gs2 (w'.at d2) sl' (t ++ t2) m2 qq2 (Nat.le_refl _) hMd2 h3
  exact ⟨N+1,R1,q1,w1,gs1,a1,w1',sl1,t1,m1,qq1,by simp only [runNT,hst,h1];exact r1,r2,r3,r4,r5,⟨r6.le,r6.new,r6.size,r6.size',r6.stay,r6.tp',r6.os',r6.out',r6.held⟩,r7⟩
theorem Ext0.bx {R R1:Nat→Nat→Prop} {w w' w1 w1':World} (h:Ext0 K R R1 w w' w1 w1') (hb:∀b,Bx b→b < w'.heap.size) (hbx:∀b c,R b c→¬ Bx c):∀b c,R1 b c→¬ Bx c:=fun b c hr hc=>by
 rcases h.new b c hr with x | ⟨_,x⟩
 ·exact hbx b c x hc
 ·have:=hb c hc
  omega
theorem kid_all {Sp:FuncId→Prop} {c0:Nat→Bool} {F:Nat→List Nat} (Z:Cov K P' P c g Sp) (Zs:Cov Ks P' P' c g (fun _=>False)) (hC:XH c0 F P') (hSp:∀f,Sp f→c0 f=false) {q:Goroutine} {w:World} (hT:LT P' true Fin q w) :
 ∀(R:Nat→Nat→Prop) (gs:Array Goroutine) (a:Goroutine) (w':World) (sl:Option (Nat×Nat)) (t:Trace) (m:Nat) (qq:Nat→Nat),GR K P' P bs R q a→MS K Ks P' P g S R q w w'→RMJ P S Bx ch z ok Q j gs a w' t m qq→(∀b c,R b c→¬ Bx c)→NG c0 F bs.src q →
  ∃(N:Nat) (R1:Nat→Nat→Prop) (q1:Goroutine) (w1:World) (gs1:Array Goroutine) (a1:Goroutine) (w1':World) (sl1:Option (Nat×Nat)) (t1:Trace) (m1:Nat) (qq1:Nat→Nat),
   runNT P N (crowd gs w' sl) t=(.next (crowd gs1 w1' sl1),t1)∧zZ bs.src q1∧LT P' true Fin q1 w1∧Desc P' q w q1 w1∧GR K P' P bs R1 q1 a1∧MS K Ks P' P g S R1 q1 w1 w1'∧RMJ P S Bx ch z ok Q j gs1 a1 w1' t1 m1 qq1∧Ext0 K R R1 w w' w1 w1'∧∀b c,R1 b c→¬ Bx c:=by
 refine LT.strong (M:=fun q w=>∀(R:Nat→Nat→Prop) (gs:Array Goroutine) (a:Goroutine) (w':World) (sl:Option (Nat×Nat)) (t:Trace) (m:Nat) (qq:Nat→Nat),GR K P' P bs R q a→MS K Ks P' P g S R q w w'→RMJ P S Bx ch z ok Q j gs a w' t m qq→(∀b c,R b c→¬ Bx c)→NG c0 F bs.src q →       ∃(N:Nat) (R1:Nat→Nat→Prop) (q1:Goroutine) (w1:World) (gs1:Array Goroutine) (a1:Goroutine) (w1':World) (sl1:Option (Nat×Nat)) (t1:Trace) (m1:Nat) (qq1:Nat→Nat),         runNT P N (crowd gs w' sl) t=(.next (crowd gs1 w1' sl1),t1)∧zZ bs.src q1∧LT P' true Fin q1 w1∧Desc P' q w q1 w1∧GR K P' P bs R1 q1 a1∧MS K Ks P' P g S R1 q1 w1 w1'∧RMJ P S Bx ch z ok Q j gs1 a1 w1' t1 m1 qq1∧Ext0 K R R1 w w' w1 w1'∧∀b c,R1 b c→¬ Bx c) (fun q w hT ih=>?_) hT
 intro R gs a w' sl t m qq hG hM hR hbx hN
 by_cases hla:zZ bs.src q
 ·exact ⟨0,R,q,w,gs,a,w',sl,t,m,qq,rfl,hla,hT,.refl _ _,hG,hM,hR,.refl _ _,hbx⟩
 ·obtain ⟨N,R1,q1,w1,gs1,a1,w1',sl1,t1,m1,qq1,r1,r2,r3,r4,r5,r6,r7⟩:=kid_step Z Zs hC hSp hT hG hN hla hbx _ gs w' sl t m qq (Nat.le_refl _) hM hR
  obtain ⟨N2,R2,q2,w2,gs2,a2,w2',sl2,t2,m2,qq2,h1,h2,h3,h4,h5,h6,h7,h8,h9⟩:=ih q1 w1 r2 R1 gs1 a1 w1' sl1 t1 m1 qq1 r3 r4 r5 (r6.bx hR.bx hbx) r7
  exact ⟨N+N2,R2,q2,w2,gs2,a2,w2',sl2,t2,m2,qq2,qO r1 h1,h2,h3,r2.desc.trans h4,h5,h6,h7,r6.trans h8,h9⟩
end
end Go.Sim
end
namespace Go.Sim
open Go Go.Instr Go.Conc
section
variable {P' P:Program} {K Ks:Cfg} {c g:Nat→Bool} {Sp:FuncId→Prop}
theorem VR.plain_eq {C:FuncId→Prop} {R:Nat→Nat→Prop}:∀{n:Nat} {v v':Value},VR C R v v'→zw n v=true→v'=v
 | 0,v,v',_,h=>by simp [zw] at h
 | n+1,v,v',hv,h=>by
   have key:∀{xs xs':Array Value},xs.size=xs'.size→(∀(i:Nat) (x x':Value),xs[i]? = some x→xs'[i]? = some x'→VR C R x x')→xs.all (zw n)=true→xs'=xs:=fun {xs xs'} hs he hx=>by
    rw [Array.all_eq_true'] at hx
    refine Array.ext hs.symm fun i h1 h2=>?_
    exact VR.plain_eq (he i xs[i] xs'[i] (by simp [h2]) (by simp [h1])) (hx _ (Array.getElem_mem h2))
   cases hv with
   | iface t hv=>rw [VR.plain_eq hv (by simpa [zw] using h)]
   | agg hs he=>rw [key hs he (by simpa [zw] using h)]
   | tuple hs he=>rw [key hs he (by simp only [zw,Bool.and_eq_true] at h;exact h.2)]
   | _=>first | rfl | (simp [zw] at h;done)
def Still {α:Type} (s:Sem α):Prop:=∀P w,(∃a,s.run P w=.ok a w)∨∃h,s.run P w=.halt h w
theorem Still.pure {α:Type} (a:α):Still (Pure.pure a:Sem α):=fun _ _=>.inl ⟨a,rfl⟩
theorem Still.bind {α β:Type} {s:Sem α} {f:α→Sem β} (h:Still s) (k:∀a,Still (f a)):Still (s >>= f):=fun P w=>by
 rcases h P w with ⟨a,e⟩ | ⟨x,e⟩
 ·rw [Sem.run_bind,e];exact k a P w
 ·rw [Sem.run_bind,e];exact .inr ⟨x,rfl⟩
theorem Still.stuck {α:Type} (m:String):Still (Go.stuck m:Sem α):=fun _ _=>.inr ⟨_,rfl⟩
theorem Still.halt {α:Type} (x:Halt):Still (.halt x:Sem α):=fun _ _=>.inr ⟨_,rfl⟩
theorem Still.program:Still Go.program:=fun _ _=>.inl ⟨_,rfl⟩
theorem Still.load (a:Addr):Still (Go.load a):=fun P w=>by
 rw [run_load]
 split
 ·exact .inl ⟨_,rfl⟩
 ·split
  ·exact .inl ⟨_,rfl⟩
  ·exact .inr ⟨_,rfl⟩
theorem Still.underlying (t:TypeId):Still (Go.underlying t):=by
 unfold Go.underlying
 refine Still.program.bind fun P=>?_
 split
 ·exact .pure _
 ·exact .stuck _
theorem Still.typeInfo (t:TypeId):Still (Go.typeInfo t):=by
 unfold Go.typeInfo
 refine Still.program.bind fun P=>?_
 split
 ·exact .pure _
 ·exact .stuck _
theorem Still.isAgg (t:TypeId):Still (Go.isAgg t):=by
 unfold Go.isAgg
 refine (Still.underlying t).bind fun d=>?_
 split <;> exact .pure _
theorem Still.sizeOf (t:TypeId):Still (Go.sizeOf t):=by
 unfold Go.sizeOf
 exact (Still.typeInfo t).bind fun d=>.pure _
theorem Still.loadCellsFrom (a:Addr) (i n:Nat) (acc:Array Value):Still (Go.loadCellsFrom a i n acc):=by
 induction n generalizing i acc with
 | zero=>exact .pure _
 | succ n ih =>
   unfold Go.loadCellsFrom
   exact (Still.load _).bind fun v=>ih _ _
theorem Still.loadVar (t:TypeId) (a:Addr):Still (Go.loadVar t a):=by
 unfold Go.loadVar
 refine (Still.isAgg t).bind fun b=>?_
 split
 ·exact (Still.sizeOf t).bind fun n=>(Still.loadCellsFrom _ _ _ _).bind fun c=>.pure _
 ·exact .load a
theorem Still.asAddr (v:Value):Still (Go.asAddr v):=by
 unfold Go.asAddr
 split <;> first
  | exact .pure _
  | exact .stuck _
  | (unfold Go.runtimePanic
     refine Still.program.bind fun P=>?_
     exact .halt _)
theorem Still.results (fn:Func) (ts:Array Value):Still (Go.results fn ts):=by
 unfold Go.results
 rw [Array.mapM_eq_mapM_toList,map_eq_pure_bind]
 simp only [bind_assoc,pure_bind]
 refine Still.bind ?_ fun _=>.pure _
 induction fn.results.toList with
 | nil=>exact .pure _
 | cons x l ih =>
   rw [List.mapM_cons]
   refine Still.bind ?_ fun v=>ih.bind fun _=>.pure _
   cases x with
   | tmp t=>exact .pure _
   | cell a t=>exact (Still.asAddr _).bind fun _=>.loadVar _ _
theorem qeu {P:Program} {m m1:Machine} {t t1:Trace}:∀{N M:Nat} {r:Stepped},runNT P N m t=(.next m1,t1)→runN P M m1=r→runN P (N+M) m=r:=by
 intro N
 induction N generalizing m t with
 | zero =>
   intro M r h1 h2
   simp only [runNT,Prod.mk.injEq,Stepped.next.injEq] at h1
   obtain ⟨rfl,rfl⟩:=h1
   rw [Nat.zero_add];exact h2
 | succ N ih =>
   intro M r h1 h2
   rw [Nat.succ_add]
   simp only [runNT] at h1
   simp only [runN,step]
   cases e:stepT P m with
   | mk s ops =>
     rw [e] at h1
     cases s with
     | next m2=>exact ih h1 h2
     | ended o w=>simp at h1
theorem qas (Z:Cov K P' P c g Sp) (Zs:Cov Ks P' P' c g (fun _=>False)) {f:FuncId} {args:Array Value} {Ws W:World} {R:Nat→Nat→Prop} {Post:Value→World→Prop} (hPh:qaF K Ks P' P g Sp (FinP P' Post)) (hf:K.C f) (hs:¬ Sp f)
 (hargs:AR K.C R args args) (hargs':AR Ks.C R args args) (hf':Ks.C f)
 (h0:W0 K R Ws W) (h0s:W0 Ks R Ws Ws) (hn:yE Ws) (hg:∀n,g n=true→R n n) (hfz:∀b c,R b c→K.Fz b) (hkp:∀n,K.Fz n→R n n∧Ws.heap[n]? = K.bs[n]?∧W.heap[n]? = K.bt[n]?)
 (hP:∀v w t,Post v w→Post v (w.tp t)) (hp:∀v w,Post v w→zw 8 v=true)
 (hC:∀t,Calls P' f args (Ws.tp t) fun e w'=>∃v,e=.returned v∧Post v w') :
 ∃N last o w' t',runNT P (N+1) (solo (G (Frame.enter P f args .normal) []) W) #[]=(.ended o w',t')∧runN P N (solo (G (Frame.enter P f args .normal) []) W)=.next last∧step P last=.ended o w' ∧
  Conc.Good P (fun v w'=>(∃wf,Post v wf)∧(∀k,k < W.heap.size→w'.heap[k]? = W.heap[k]?)∧W.heap.size≤w'.heap.size∧w'.os=W.os∧w'.output=W.output∧w'.tape=W.tape) last o w' t':=by
 have hself:YH Ks P' g (jL P' f args [c0]) Ws:=⟨R,.mk (FR.enter Zs hf' (fun h=>h) hargs') (.base rfl),h0s,hn,hg⟩
 have hT:=LT.of_calls Zs hP hself hC
 have hM:MS K Ks P' P g (fun _=>False) R (jL P' f args [c0]) Ws W:=⟨h0,hn,hself,hg,fun _ _ _ h=>h,fun _ h=>h.elim,hkp⟩
 have hG:GR K P' P (.lone []) R (jL P' f args [c0]) (jL P f args []):=.mk (FR.enter Z hf hs hargs) (.base rfl)
 have hR:RM P (fun _=>False) #[jL P f args []] (jL P f args []) W #[]:=⟨rfl,⟨fun _=>0,leavers_one P _⟩,by
  have h1:Past (fun _=>False) W.heap.size #[]:=past_nil.mono (Nat.zero_le _)
  have e:zA (fun _=>False)=fun _=>False:=by
   funext l;cases l <;> rfl
  rw [e];exact h1,fun i op h=>by simp at h⟩
 obtain ⟨N,S1,R1,q1,w1,gs1,a1,w1',sl1,t1,r1,hl,hF,hG1,hM1,⟨hh,⟨qq,hL⟩,hPast,_⟩,hX,_⟩:=qaf Z Zs hPh hT _ R #[jL P f args []] _ W none #[] (.inl hG) hM hR
 have hend:Goes P true AtRel (fun _ _ _=>False) (AtEnd P (zA S1) w1'.heap.size (fun v w'=>(∃wf,Post v wf)∧(∀k,k < W.heap.size→w'.heap[k]? = W.heap[k]?)∧W.heap.size≤w'.heap.size∧w'.os=W.os∧w'.output=W.output∧w'.tape=W.tape)) 0 a1 w1':=by
  intro w₁ hw₁
  obtain ⟨d,rfl⟩:=hw₁
  obtain ⟨l1,l2,l3⟩:=hl
  obtain ⟨v,fn,e1,e2,e3⟩:=hF w1.tape
  cases hG1 with
  | @mk qa a' k k' ha hk =>
    simp only at l1 l2 l3 e1 e2
    have hdf:=ha.defers
    subst l3
    have hk':k'=[]:=by
     cases hk with
     | base _=>rfl
     | over h=>cases h with
       | cons h1 h2=>cases h2
    subst hk'
    refine ⟨rfl,?_⟩
    obtain ⟨F,f1,f2,hi⟩:=ha.std
    have hfd:a'.defers=[]:=by
     rw [l2] at hdf
     revert hdf
     generalize a'.defers=ds
     intro hdf
     cases hdf;rfl
    have hmd:a'.mode=.returning:=by
     rcases ha.mode with ⟨h,_⟩ | ⟨_,h⟩
     ·rw [l1] at h;cases h
     ·exact h
    have hfn:F=fn:=by rw [e1] at f1;cases f1;rfl
    subst hfn
    have hwr:WR (K.at w1.drawn) R1 (w1.tp (fun n z=>w1'.tape (d+(n - w1.drawn)) z)) (w1'.at d):=W0.wr (⟨hM1.w0.fn,hM1.w0.inj,hM1.w0.obj,hM1.w0.fz,hM1.w0.glob,hM1.w0.big,hM1.w0.big'⟩:W0 K R1 (w1.tp (fun n z=>w1'.tape (d+(n - w1.drawn)) z)) (w1'.at d)) _ fun j z _=>by
     show w1'.tape (d+j) z=w1'.tape (d+(w1.drawn+j - w1.drawn)) z
     rw [Nat.add_sub_cancel_left]
    obtain ⟨R2,v',w2',h1,h2,h3,h4,h5,_⟩:=(qg.results (K:=K.at w1.drawn) (P':=P') (P:=P) Z.toSame F ha.tmps _ _ hwr).1 v _ (e2 (fun n z=>w1'.tape (d+(n - w1.drawn)) z)) (Nat.le_refl _)
    have hv:v'=v:=VR.plain_eq h5 (hp v _ (e3 w1.tape))
    subst hv
    obtain ⟨fn0,ts,td,ds,mode,kind,ro⟩:=a'
    have hkd:=ha.kind'
    have hfe:=ha.fn
    simp only at hfd hmd hkd hfe h1 h4
    subst hfd hmd hkd
    have hi':P.inits.idxOf? fn0=none:=by
     rw [hfe]
     have hT:=Z.tables
     have e:P.inits=P'.inits:=by
      obtain ⟨T',f'⟩:=P';obtain ⟨T,f⟩:=P
      simp only at hT;subst hT;rfl
     rw [e];exact hi
    have f2':P.funcs[fn0]? = some F:=by rw [hfe];exact f2
    obtain rfl:w2'=w1'.at d:=by
     rcases Still.results F ts P (w1'.at d) with ⟨_,e⟩ | ⟨_,e⟩
     ·rw [h1] at e;cases e;rfl
     ·rw [h1] at e;cases e
    have hst:stepG P true { frame:={ fn:=fn0,tmps:=ts,todo:=td,defers:=[],mode:=.returning,kind:=.normal,roundOf:=ro },callers:=[],status:=.running,dying:=none } (w1'.at d)
     = .ended (.done v') (w1'.at d) (seen P fn0 ((Go.results F ts).events P (w1'.at d) #[])):=by
     unfold stepG
     dsimp only
     unfold unwind
     simp only [f2',Sem.runT_eq,h1,doReturn,hi']
     simp [GStep.after]
    refine ⟨v',_,hst,fun e he=>qaS (h4 e (mem_seen he)) (fun b c hr hc=>?_) (fun b c hr=>?_),⟨_,e3 w1.tape⟩,fun k hk=>hX.stay k hk fun b hr=>hfz b k hr,hX.size',hX.os',hX.out',hX.tp'⟩
    ·rcases h3.new b c hr with h | ⟨_,h⟩
     ·exact hM1.shun b c h hc
     ·have:=hM1.low c hc
      exact absurd h (Nat.not_le.2 this)
    ·obtain ⟨_,o',_,h2,_⟩:=h2.obj b c hr
     exact (Array.getElem?_eq_some_iff.1 h2).1
 obtain ⟨N2,last,o,w',t',b1,b2,b3,b4⟩:=beside_ends (sl:=sl1) (fun _ _ _ h=>h.elim) hh hL hPast hend
 have e0:(solo (G (Frame.enter P f args .normal) []) W)=crowd #[jL P f args []] W none:=rfl
 rw [e0]
 refine ⟨N+N2,last,o,w',t',?_,?_,b3,b4⟩
 ·rw [Nat.add_assoc];exact qO r1 b1
 ·exact qeu r1 b2
end
end Go.Sim
section
namespace Go.Sim
open Go Go.Instr Go.Conc
open Go.ConcN (sumTo upd sumTo_upd upd_ne upd_same)
section
variable {P:Program} {S:Nat→Prop} {D:World→World→Array Event→Prop} {Stop:Goroutine→World→Prop}
theorem rm_walk {β:World→Nat} (hβ:∀w d,β (w.at d)=β w) (hD:∀w w' es,D w w' es→β w≤β w'∧∀e∈es,EvL (zA S) (β w') e) :
 ∀(M n:Nat) (gs:Array Goroutine) (a:Goroutine) (w:World) (sl:Option (Nat×Nat)) (t:Trace) (qq:Nat→Nat),n+sumTo gs.size qq≤M→gs[0]? = some a→Leavers P t gs qq→Past (zA S) (β w) t→(∀(i:Nat) (op:MemOp),t[i]? = some op→op.g < gs.size)→Goes P true AtRel D Stop n a w →
  ∃(N:Nat) (gs':Array Goroutine) (a':Goroutine) (w':World) (sl':Option (Nat×Nat)) (t':Trace),runNT P N (crowd gs w sl) t=(.next (crowd gs' w' sl'),t')∧(gs'[0]? = some a'∧(∃qq,Leavers P t' gs' qq)∧Past (zA S) (β w') t'∧∀(i:Nat) (op:MemOp),t'[i]? = some op→op.g < gs'.size)∧Stop a' w':=by
 intro M
 induction M using Nat.strongRecOn with
 | _ M ih =>
 intro n gs a w sl t qq hq h0 hL hP hNm hG
 cases n with
 | zero=>exact ⟨0,gs,a,w,sl,t,rfl,⟨h0,⟨qq,hL⟩,hP,hNm⟩,hG w (atRel_refl w)⟩
 | succ n =>
 rcases hG with hstop | ⟨hrun,hstep⟩
 ·exact ⟨0,gs,a,w,sl,t,rfl,⟨h0,⟨qq,hL⟩,hP,hNm⟩,hstop w (atRel_refl w)⟩
 have haw:∀x∈gs,awake x:=by
  intro x hx
  obtain ⟨i,hi,rfl⟩:=Array.mem_iff_getElem.1 hx
  rcases Nat.eq_zero_or_pos i with rfl | hpos
  ·have:gs[0]=a:=by simpa [Array.getElem?_eq_getElem hi] using h0
   rw [this];exact awake_of (.inl hrun)
  ·exact awake_of ((hL.old i _ hpos (Array.getElem?_eq_getElem hi)).status.elim .inl fun x=>.inr (.inr x))
 obtain ⟨i,x,d,sl',hi,hx,hst⟩:=crowd_pick (P:=P) (w:=w) (sl:=sl) haw ⟨0,a,h0,hrun⟩
 rcases Nat.eq_zero_or_pos i with rfl | hpos
 ·obtain rfl:x=a:=by rw [h0] at hi;exact (Option.some.inj hi).symm
  have hs:=hstep (w.at d) ⟨d,rfl⟩
  cases e:stepG P true x (w.at d) with
  | go a1 w1 es =>
    rw [e] at hs
    obtain ⟨hd,hg⟩:=hs
    obtain ⟨hsz,hev⟩:=hD _ _ _ hd
    have hsz':β w≤β w1:=by rw [hβ] at hsz;exact hsz
    have hrunT:=runT_crowd_go (P:=P) (sl:=sl') (i:=0) hi (show stepG P (0 == 0) x (w.at d)=_ from e)
    have hlt:0 < gs.size:=(Array.getElem?_eq_some_iff.1 h0).1
    have hsize:((gs.map (woken P x a1 w1)).setIfInBounds 0 a1).size=gs.size:=by simp
    obtain ⟨N,gs1,a2,w2,sl2,t2,r1,r2,r3⟩:=ih (n+sumTo gs.size qq) (by omega) n ((gs.map (woken P x a1 w1)).setIfInBounds 0 a1) a1 w1 sl' (t ++ MemOp.ofEvents 0 x.frame.fn x.frame.place es) qq (by rw [hsize];exact Nat.le_refl _) (by simp [hlt])
     ⟨fun j y hj hy=>by
       have hne:0≠j:=by omega
       rw [Array.getElem?_setIfInBounds_ne hne,Array.getElem?_map] at hy
       obtain ⟨z,hz,rfl⟩:=Option.map_eq_some_iff.1 hy
       have hq:=hL.old j z hj hz
       rw [woken_quitsD hq,Deaf_other t (by omega) _ (fun op hop=>by obtain ⟨e,_,rfl⟩:=Go.Conc.mem_ofEvents hop;rfl)]
       exact hq,fun j hj=>by
       rw [Deaf_other t (g':=0) (by simp at hj;omega) _ (fun op hop=>by obtain ⟨e,_,rfl⟩:=Go.Conc.mem_ofEvents hop;rfl)]
       exact hL.above j (by simpa using hj)⟩
     ((hP.mono hsz').own hev) (qV hNm (by simp) fun op hop=>by obtain ⟨e,_,rfl⟩:=Go.Conc.mem_ofEvents hop;simpa using hlt) hg
    exact ⟨N+1,gs1,a2,w2,sl2,t2,by simp only [runNT,hst,hrunT];exact r1,r2,r3⟩
  | _=>rw [e] at hs;exact hs.elim
 ·have hq1:=hL.old i x hpos hi
  have hi0:(i == 0)=false:=by simp;omega
  have hlt:i < gs.size:=(Array.getElem?_eq_some_iff.1 hi).1
  cases hqi:qq i with
  | zero=>rw [hqi] at hq1;rw [hq1.1] at hx;cases hx
  | succ k =>
    rw [hqi] at hq1
    rcases hq1 with ⟨hf,_⟩ | ⟨_,g',es,hm,hstp,hq'⟩
    ·rw [hf] at hx;cases hx
    have hrunT:=runT_crowd_go (P:=P) (sl:=sl') (i:=i) hi (by rw [hi0];exact hstp (w.at d))
    have hsz:((gs.map (woken P x g' (w.at d))).setIfInBounds i g').size=gs.size:=by simp
    have hsum:sumTo gs.size (upd qq i k)+(k+1)=sumTo gs.size qq+k:=by
     have:=sumTo_upd qq k id hlt
     simpa [hqi] using this
    obtain ⟨N,gs1,a2,w2,sl2,t2,r1,r2,r3⟩:=ih (n+1+sumTo gs.size (upd qq i k)) (by omega) (n+1) ((gs.map (woken P x g' (w.at d))).setIfInBounds i g') a (w.at d) sl' (t ++ MemOp.ofEvents i x.frame.fn x.frame.place es) (upd qq i k) (by rw [hsz];exact Nat.le_refl _)
     (by
       have hne:i≠0:=by omega
       rw [Array.getElem?_setIfInBounds_ne hne,Array.getElem?_map,h0]
       simp [woken_run hrun])
     ⟨fun j y hj hy=>by
       by_cases hji:i=j
       ·subst hji
        rw [Array.getElem?_setIfInBounds_self_of_lt (by simpa using hlt)] at hy
        obtain rfl:=Option.some.inj hy
        rw [upd_same,Deaf_own]
        exact hq'
       ·rw [Array.getElem?_setIfInBounds_ne hji,Array.getElem?_map] at hy
        obtain ⟨z,hz,rfl⟩:=Option.map_eq_some_iff.1 hy
        have hqj:=hL.old j z hj hz
        rw [woken_quitsD hqj,upd_ne qq k (Ne.symm hji),Deaf_other t hji _ (fun op hop=>by obtain ⟨e,_,rfl⟩:=Go.Conc.mem_ofEvents hop;rfl)]
        exact hqj,fun j hj=>by
       rw [Deaf_other t (g':=i) (by simp at hj;omega) _ (fun op hop=>by obtain ⟨e,_,rfl⟩:=Go.Conc.mem_ofEvents hop;rfl)]
       exact hL.above j (by simpa using hj)⟩
     (by rw [hβ];exact hP.mute (by omega) hm) (qV hNm (by simp) fun op hop=>by obtain ⟨e,_,rfl⟩:=Go.Conc.mem_ofEvents hop;simpa using hlt)
     (.inr ⟨hrun,fun w₁ h₁=>hstep w₁ (atRel_trans _ _ _ ⟨d,rfl⟩ h₁)⟩)
    exact ⟨N+1,gs1,a2,w2,sl2,t2,by simp only [runNT,hst,hrunT];exact r1,r2,r3⟩
theorem RM.walk (hD:∀w w' es,D w w' es→w.heap.size≤w'.heap.size∧∀e∈es,EvL (zA S) w'.heap.size e) {n:Nat} {gs:Array Goroutine} {a:Goroutine} {w:World} {sl:Option (Nat×Nat)} {t:Trace} (h:RM P S gs a w t) (hG:Goes P true AtRel D Stop n a w) :
 ∃(N:Nat) (gs':Array Goroutine) (a':Goroutine) (w':World) (sl':Option (Nat×Nat)) (t':Trace),runNT P N (crowd gs w sl) t=(.next (crowd gs' w' sl'),t')∧RM P S gs' a' w' t'∧Stop a' w':=by
 obtain ⟨h0,⟨qq,hL⟩,hP,hN⟩:=h
 obtain ⟨N,gs',a',w',sl',t',r1,⟨r2,r3,r4,r5⟩,r6⟩:=rm_walk (β:=fun w=>w.heap.size) (fun _ _=>rfl) hD _ n gs a w sl t qq (Nat.le_refl _) h0 hL hP hN hG
 exact ⟨N,gs',a',w',sl',t',r1,⟨r2,r3,r4,r5⟩,r6⟩
end
section
variable {P' P:Program} {K Ks:Cfg} {c g:Nat→Bool}
theorem FsR.deeper {bs:Bs} {R:Nat→Nat→Prop} {k k':List Frame} (h:FsR K P' P bs R k k'):bs.src.length < k.length:=by
 induction h with
 | one _ _=>simp
 | cons _ _ ih=>simp;omega
variable {Sp:FuncId→Prop} {Fin:Goroutine→World→Prop}
theorem qdL (Z:Cov K P' P' c g (fun _=>False)) {a:Frame} {b:Frame} {scs:List Frame} {w:World} (hT:LT P' true Fin (G a (b :: scs)) w) (hS:YH K P' g (G a (b :: scs)) w) (hscs:scs≠[]) (l1:a.mode=.returning) (l2:a.defers=[]) :
 ∃v fn,P'.funcs[a.fn]? = some fn∧(∀t,(Go.results fn a.tmps).run P' (w.tp t)=.ok v (w.tp t))∧yD P' (G a (b :: scs)) w (G (b.finish v) scs) w∧LT P' true Fin (G (b.finish v) scs) w∧YH K P' g (G (b.finish v) scs) w:=by
 have hnl:¬ Leaves (G a (b :: scs)):=fun h=>by
  have:=h.2.2
  simp only [G,List.cons.injEq] at this
  exact hscs this.2
 obtain ⟨g1,w1,es,e,hb⟩:∃g1 w1 es,stepG P' true (G a (b :: scs)) (w.tp w.tape)=.go g1 w1 es∧¬ Bad g1:=by
  cases hT with
  | fin h _=>exact absurd h hnl
  | step _ nx h1 _=>obtain ⟨es,e,hb⟩:=h1 w.tape;exact ⟨_,_,es,e,hb⟩
 have hT1:=(hT.child hnl e).2
 have hS1:=(hS.turn Z hnl w.tape e).2 hb
 obtain ⟨R,hg,hw,_,_⟩:=hS
 have e0:stepG P' true (G a (b :: scs)) w=.go g1 w1 es:=e
 cases hg with
 | mk ha _ =>
   have hw':WR (K.at w.drawn) R w w:=hw.wr _ fun _ _ _=>rfl
   obtain ⟨F,f1,_,_⟩:=ha.std
   have hk:=ha.kind
   have hss:=(qg.results (K:=K.at w.drawn) (P':=P') (P:=P') Z.toSame F ha.tmps w w hw').2.2
   obtain ⟨fn0,ts,td,ds,mode,kind,ro⟩:=a
   simp only at l1 l2 hk f1 hss
   subst l1 l2 hk
   have hr:∃v,(Go.results F ts).run P' w=.ok v w:=by
    rcases Still.results F ts P' w with ⟨v,h⟩ | ⟨x,h⟩
    ·exact ⟨v,h⟩
    ·exfalso
     have hs:∃o w1 es,stepG P' true (G { fn:=fn0,tmps:=ts,todo:=td,defers:=[],mode:=.returning,kind:=.normal,roundOf:=ro } (b :: scs)) w=.ended o w1 es:=by
      unfold stepG
      dsimp only [G]
      unfold unwind
      simp only [f1,Sem.runT_eq,h]
      cases x <;> exact ⟨_,_,_,rfl⟩
     obtain ⟨_,_,_,hs⟩:=hs
     rw [hs] at e0;cases e0
   obtain ⟨v,hr⟩:=hr
   have hs:∃es,stepG P' true (G { fn:=fn0,tmps:=ts,todo:=td,defers:=[],mode:=.returning,kind:=.normal,roundOf:=ro } (b :: scs)) w=.go (G (b.finish v) scs) w es:=by
    unfold stepG
    dsimp only [G]
    unfold unwind
    simp only [f1,Sem.runT_eq,hr]
    exact ⟨_,rfl⟩
   obtain ⟨_,hs⟩:=hs
   rw [hs] at e0
   simp only [GStep.go.injEq] at e0
   obtain ⟨e1,e2,_⟩:=e0
   subst e1 e2
   refine ⟨v,F,f1,fun t=>?_,⟨w.tape,_,_,_,hnl,e,.refl _ _⟩,hT1,hS1⟩
   have:=hss (by rw [hr];exact Nat.le_refl _) t (by rw [hr];exact fun i q a b=>absurd (Nat.lt_of_le_of_lt a b) (Nat.lt_irrefl _))
   rw [this,hr]
   rfl
end
end Go.Sim
end
namespace Go.Sim
open Go Go.Instr Go.Conc
def DJ (S Bx:Nat→Prop) (w w':World) (es:Array Event):Prop :=
 w.heap.size≤w'.heap.size∧zL Bx w w'∧∀e∈es,EvL (zA S) w'.heap.size e∧∀y,(MemAct.ofEvent e).touch? = some y→Yv Bx y.loc→y.write=false
section
variable {S Bx:Nat→Prop} {w w':World}
theorem DJ.still:DJ S Bx w w #[]:=⟨Nat.le_refl _,fun _ _=>rfl,fun e he=>by simp at he⟩
theorem DJ.none (hs:w.heap.size≤w'.heap.size) (hk:zL Bx w w'):DJ S Bx w w' #[]:=⟨hs,hk,fun e he=>by simp at he⟩
theorem evJ_read {a:Addr} {B:Nat} (hS:¬ S a.block) (hB:a.block < B):EvL (zA S) B ⟨.cell a,false,false⟩∧∀y,(MemAct.ofEvent ⟨.cell a,false,false⟩).touch? = some y→Yv Bx y.loc→y.write=false:=by
 refine ⟨⟨fun x hx hs=>?_,by simp,by simp,by rw [ofEvent_cell0];exact hB⟩,fun y hy _=>?_⟩
 ·simp only [ofEvent_cell0,MemAct.touch?,Option.some.injEq] at hx;subst hx;exact absurd hs hS
 ·simp only [ofEvent_cell0,MemAct.touch?,Option.some.injEq] at hy;subst hy;rfl
theorem qcV {a:Addr} {B:Nat} (hS:¬ S a.block) (hX:¬ Bx a.block) (hB:a.block < B):EvL (zA S) B ⟨.cell a,true,false⟩∧∀y,(MemAct.ofEvent ⟨.cell a,true,false⟩).touch? = some y→Yv Bx y.loc→y.write=false:=by
 have e1:MemAct.ofEvent ⟨.cell a,true,false⟩=.access ⟨.cell a,true,false⟩:=rfl
 refine ⟨⟨fun x hx hs=>?_,by simp,by simp,by rw [e1];exact hB⟩,fun y hy hb=>?_⟩
 ·rw [e1] at hx;simp only [MemAct.touch?,Option.some.injEq] at hx;subst hx;exact absurd hs hS
 ·rw [e1] at hy;simp only [MemAct.touch?,Option.some.injEq] at hy;subst hy;exact absurd hb hX
end
section
variable {P:Program} {w w2:World}
theorem qp {b:Nat} (h:w2.heap[b]? = w.heap[b]?) {a:Addr} (ha:a.block=b):w2.cell? a=w.cell? a:=by
 subst ha;exact World.cell?_of_block h
theorem add_block (a:Addr) (n:Nat):(a.add n).block=a.block:=by unfold Addr.add;split <;> rfl
theorem qad {ad:Addr} {c:Array Value} {e:TypeId} {f:Nat×Nat} {v:Value} {w1:World} (hb:w.heap[ad.block]? = some (.cells c e f)) (h:(Go.load ad).run P w=.ok v w1):w1=w∧w.cell? ad=some v:=by
 rw [run_load] at h
 cases e:w.cell? ad with
 | some u =>
   rw [e] at h
   simp only [Result.ok.injEq] at h
   exact ⟨h.2.symm,by rw [h.1]⟩
 | none =>
   exfalso
   rw [e] at h
   unfold World.farLoad at h
   rw [hb] at h
   simp at h
def Reads (b:Nat) (es:Array Event):Prop:=∀ev∈es,∃off s,ev=⟨.cell ⟨b,off,s⟩,false,false⟩
theorem xh {ad:Addr} {c:Array Value} {e:TypeId} {f:Nat×Nat} (hb:w.heap[ad.block]? = some (.cells c e f)) (h:w2.heap[ad.block]? = w.heap[ad.block]?):∀(n i:Nat) (acc xs:Array Value) (w1:World),(loadCellsFrom ad i n acc).run P w=.ok xs w1 →
 w1=w∧(loadCellsFrom ad i n acc).run P w2=.ok xs w2∧∀es,Reads ad.block es→Reads ad.block ((loadCellsFrom ad i n acc).events P w2 es)
 | 0,_,_,_,_,hr=>by
   simp only [loadCellsFrom,Sem.run_pure,Result.ok.injEq] at hr ⊢
   exact ⟨hr.2.symm,⟨hr.1,trivial⟩,fun es he=>by simpa using he⟩
 | n+1,i,acc,xs,w1,hr=>by
   simp only [loadCellsFrom,Sem.run_bind] at hr ⊢
   cases hl:(load (ad.add i)).run P w with
   | halt x wx=>rw [hl] at hr;simp at hr
   | ok v wx =>
     obtain ⟨hwx,hc⟩:=qad (by rw [add_block];exact hb) hl
     rw [hwx] at hl
     have hc2:w2.cell? (ad.add i)=some v:=(qp h (add_block ad i)).trans hc
     have e2:(load (ad.add i)).run P w2=.ok v w2:=by simp [hc2]
     rw [hl,Result.andThen_ok] at hr
     rw [e2,Result.andThen_ok]
     obtain ⟨k1,k2,k3⟩:=xh hb h n (i+1) _ xs w1 hr
     refine ⟨k1,k2,fun es he=>?_⟩
     rw [Sem.events_bind,e2,events_load,hc2]
     refine k3 _ fun ev hev=>?_
     rcases Array.mem_push.1 hev with hev | rfl
     ·exact he ev hev
     ·refine ⟨(ad.add i).off,(ad.add i).spot,?_⟩
      have:=add_block ad i
      cases hh:ad.add i with
      | mk b o s=>rw [hh] at this;simp only at this;subst this;rfl
theorem qct {t:TypeId} {n:Nat} {w1:World} (h:(Go.sizeOf t).run P w=.ok n w1):w1=w∧∀w2,(Go.sizeOf t).run P w2=.ok n w2∧∀es,(Go.sizeOf t).events P w2 es=es:=by
 unfold Go.sizeOf Go.typeInfo at h ⊢
 simp only [Sem.run_bind,run_program,Result.andThen_ok] at h ⊢
 cases e:P.info? t with
 | none=>rw [e] at h;simp [stuck] at h
 | some d =>
   rw [e] at h
   simp at h
   obtain ⟨h1,h2⟩:=h
   subst h1 h2
   exact ⟨rfl,fun w2=>⟨by simp,fun es=>by simp [Sem.events_bind,e]⟩⟩
theorem qdv {t:TypeId} {b:Bool} {w1:World} (h:(Go.isAgg t).run P w=.ok b w1):w1=w∧∀w2,(Go.isAgg t).run P w2=.ok b w2∧∀es,(Go.isAgg t).events P w2 es=es:=by
 unfold Go.isAgg Go.underlying at h ⊢
 simp only [Sem.run_bind,run_program,Result.andThen_ok] at h ⊢
 cases e:P.underlying t with
 | none=>rw [e] at h;simp [stuck] at h
 | some d =>
   rw [e] at h
   simp only [Sem.run_pure,Result.andThen_ok] at h
   refine ⟨?_,fun w2=>⟨?_,fun es=>?_⟩⟩
   ·cases d <;> simp at h <;> exact h.2.symm
   ·simp only [Sem.run_pure,Result.andThen_ok]
    cases d <;> simp at h ⊢ <;> exact h.1
   ·simp only [Sem.events_bind,run_program,Sem.run_pure,Result.andThen_ok,e]
    cases d <;> simp [e,Sem.events_bind]
theorem yU {t:TypeId} {ad:Addr} {c:Array Value} {e:TypeId} {f:Nat×Nat} {v:Value} {w1:World} (hb:w.heap[ad.block]? = some (.cells c e f)) (h:w2.heap[ad.block]? = w.heap[ad.block]?) (hr:(Instr.loadAt t (.pointer (some ad))).run P w=.ok v w1) :
 w1=w∧(Instr.loadAt t (.pointer (some ad))).run P w2=.ok v w2∧Reads ad.block ((Instr.loadAt t (.pointer (some ad))).events P w2 #[]):=by
 unfold Instr.loadAt at hr ⊢
 have hs:∀w,(Instr.sureAddr (.pointer (some ad))).run P w=.ok ad w:=fun w=>by simp [Instr.sureAddr]
 have hse:∀w es,(Instr.sureAddr (.pointer (some ad))).events P w es=es:=fun w es=>by simp [Instr.sureAddr]
 simp only [Sem.run_bind,Sem.events_bind,hs,hse,Result.andThen_ok] at hr ⊢
 unfold Go.loadVar at hr ⊢
 simp only [Sem.run_bind,Sem.events_bind] at hr ⊢
 cases ha:(Go.isAgg t).run P w with
 | halt x wx=>rw [ha] at hr;simp at hr
 | ok b wx =>
   obtain ⟨hwx,h2⟩:=qdv ha
   rw [hwx] at ha
   rw [ha,Result.andThen_ok] at hr
   rw [(h2 w2).1,Result.andThen_ok,Result.evThen_ok,(h2 w2).1,Result.evThen_ok,(h2 w2).2]
   cases b with
   | true =>
     simp only [if_true,Sem.run_bind,Sem.events_bind] at hr ⊢
     cases hz:(Go.sizeOf t).run P w with
     | halt x wx=>rw [hz] at hr;simp at hr
     | ok n wx =>
       obtain ⟨hwx,h3⟩:=qct hz
       rw [hwx] at hz
       rw [hz,Result.andThen_ok] at hr
       simp only [(h3 w2).1,Result.andThen_ok,Result.evThen_ok,(h3 w2).2]
       unfold Go.loadCells at hr ⊢
       cases hl:(loadCellsFrom ad 0 n #[]).run P w with
       | halt x wx=>rw [hl] at hr;simp at hr
       | ok xs wx =>
         obtain ⟨hwx,k2,k3⟩:=xh hb h n 0 #[] xs wx hl
         rw [hwx] at hl
         rw [hl] at hr
         simp only [Result.andThen_ok,Sem.run_pure,Result.ok.injEq] at hr
         obtain ⟨hv,hw⟩:=hr
         refine ⟨hw.symm,by simp [k2,hv],?_⟩
         simp only [k2,Result.andThen_ok]
         have:=k3 #[] (fun ev he=>by simp at he)
         simpa using this
   | false =>
     simp only [Bool.false_eq_true,if_false] at hr ⊢
     obtain ⟨hwx,hc⟩:=qad hb hr
     have hc2:=(qp h rfl).trans hc
     refine ⟨hwx,by simp [hc2],?_⟩
     rw [events_load,hc2]
     intro ev hev
     simp at hev
     exact ⟨ad.off,ad.spot,hev⟩
end
section
variable {P:Program} {m:Bool} {S Bx:Nat→Prop} {Stop:Goroutine→World→Prop} {n:Nat} {w w1:World} {b:Frame} {a:Go.Act} {kk:List Item} {cs:List Frame} {ops:Array Oper} {i:Nat} {rest:List Nat} {o:Oper}
variable {g:Goroutine}
abbrev GoJ (P:Program) (m:Bool) (S Bx:Nat→Prop) (Stop:Goroutine→World→Prop) (n:Nat) (g:Goroutine) (w:World):Prop:=Goes P m AtRel (DJ S Bx) Stop n g w
theorem GoJ.at (k:GoJ P m S Bx Stop n g w) (hr:AtRel w w1):GoJ P m S Bx Stop n g w1:=Goes.rely atRel_trans k hr
theorem GoJ.ctl {g g':Goroutine} (hs:g.status=.running) (h:∀w,stepG P m g w=.go g' w #[]) (k:GoJ P m S Bx Stop n g' w):GoJ P m S Bx Stop (n+1) g w :=
 Goes.step hs fun w₁ hr=>by rw [h,goes_go];exact ⟨DJ.still,k.at hr⟩
theorem GoJ.draw {id:Nat} (k:∀t,GoJ P m S Bx Stop n (G (b.at a (.inRegion ops (Region.schedule (P.follows .mixedOrders) ops t) :: kk)) cs) w):GoJ P m S Bx Stop (n+1) (G (b.at a (.code (.region id ops true) :: kk)) cs) w :=
 Goes.step rfl fun w₁ hr=>by
  obtain ⟨d,rfl⟩:=hr
  rw [stepG_region_draw,goes_go]
  exact ⟨DJ.none (Nat.le_refl _) fun _ _=>rfl,(k _).at ⟨d+1,rfl⟩⟩
theorem GoJ.val {v:Value} (ho:ops[i]? = some o) (hg:o.guard=none) (hk:b.kind≠.early) (hr:∀d,(execOp a.eval o).run P (w.at d)=.ok (.value v) (w1.at d)) (hD:∀d,DJ S Bx (w.at d) (w1.at d) (listed P b.fn a o (w.at d)))
 (k:GoJ P m S Bx Stop n (G (b.at (a.put o.dst v) (.inRegion ops rest :: kk)) cs) w1):GoJ P m S Bx Stop (n+1) (G (b.at a (.inRegion ops (i :: rest) :: kk)) cs) w :=
 Goes.step rfl fun w₁ hr₁=>by
  obtain ⟨d,rfl⟩:=hr₁
  rw [stepG_value ho (by unfold Region.wanted;rw [hg]) hk (hr d),goes_go]
  exact ⟨hD d,k.at ⟨d,rfl⟩⟩
theorem GoJ.skip {w1:World} (ho:ops[i]? = some o) (hg:o.guard=none) (hk:b.kind≠.early) (hr:∀d,(execOp a.eval o).run P (w.at d)=.ok .skip (w1.at d)) (hD:∀d,DJ S Bx (w.at d) (w1.at d) (listed P b.fn a o (w.at d)))
 (k:GoJ P m S Bx Stop n (G (b.at (a.put o.dst undef) (.inRegion ops rest :: kk)) cs) w1):GoJ P m S Bx Stop (n+1) (G (b.at a (.inRegion ops (i :: rest) :: kk)) cs) w :=
 Goes.step rfl fun w₁ hr₁=>by
  obtain ⟨d,rfl⟩:=hr₁
  rw [stepG_none ho (by unfold Region.wanted;rw [hg]) hk (hr d),goes_go]
  exact ⟨hD d,k.at ⟨d,rfl⟩⟩
theorem GoJ.pure {v:Value} (ho:ops[i]? = some o) (hg:o.guard=none) (hk:b.kind≠.early) (hr:∀w,(execOp a.eval o).run P w=.ok (.value v) w∧(execOp a.eval o).events P w #[]=#[])
 (k:GoJ P m S Bx Stop n (G (b.at (a.put o.dst v) (.inRegion ops rest :: kk)) cs) w):GoJ P m S Bx Stop (n+1) (G (b.at a (.inRegion ops (i :: rest) :: kk)) cs) w :=
 GoJ.val ho hg hk (fun d=>(hr _).1) (fun d=>by rw [listed_none (hr _).2];exact DJ.still) k
theorem GoJ.new {v:Value} {x:Obj} (ho:ops[i]? = some o) (hg:o.guard=none) (hk:b.kind≠.early) (hbx:∀c,Bx c→c < w.heap.size) (hr:∀d,(execOp a.eval o).run P (w.at d)=.ok (.value v) ((w.at d).alloc x)∧(execOp a.eval o).events P (w.at d) #[]=#[])
 (k:GoJ P m S Bx Stop n (G (b.at (a.put o.dst v) (.inRegion ops rest :: kk)) cs) (w.alloc x)):GoJ P m S Bx Stop (n+1) (G (b.at a (.inRegion ops (i :: rest) :: kk)) cs) w:=by
 refine GoJ.val (w1:=w.alloc x) ho hg hk (fun d=>(hr d).1) (fun d=>?_) k
 rw [listed_none (hr d).2]
 refine DJ.none ?_ fun c hc=>?_
 ·show w.heap.size≤(w.heap.push x).size
  simp
 ·show (w.heap.push x)[c]? = w.heap[c]?
  have:=hbx c hc
  rw [Array.getElem?_push_lt (by omega),Array.getElem?_eq_getElem (by omega)]
theorem ZL {t:TypeId} {x:Operand} {z:Value} (hop:o.op=.box t x) (hx:a.eval x=z) (w:World):(execOp a.eval o).run P w=.ok (.value (.pointer (some ⟨w.heap.size,0,none⟩))) (w.alloc (.cells z.cells t (0,0)))∧(execOp a.eval o).events P w #[]=#[]:=by
 constructor
 ·unfold execOp
  simp only [hop,hx]
  simp [Instr.box,newVar,newRow,go_sem]
 ·unfold execOp
  simp only [hop,hx]
  simp [Instr.box,newVar,newRow,go_sem]
theorem chan_run {t e:TypeId} {dir:ChanDir} {inf:TypeInfo} {n:Nat} {x:Operand} (hop:o.op=.makeChan t x) (hx:a.eval x=.int .i64 n) (ht:P.underlying t=some (.chan dir e)) (hi:P.info? e=some inf) (h63:(n:Int)≤9223372036854775807) (hb:(inf.bytes:Int) * n≤281474976710544) (w:World) :
 (execOp a.eval o).run P w=.ok (.value (.chan (some w.heap.size))) (w.alloc (.chan n #[] false 0 0 false))∧(execOp a.eval o).events P w #[]=#[]:=by
 constructor
 ·unfold execOp
  simp only [hop,hx]
  rw [Sem.run_bind,run_makeChan ht hi .i64 n h63 hb]
  rfl
 ·unfold execOp
  simp only [hop,hx]
  rw [Sem.events_bind,run_makeChan ht hi .i64 n h63 hb,events_makeChan ht hi .i64 n h63 hb]
  rfl
theorem qdR {t:TypeId} (hop:o.op=.makeMap t none) (w:World):(execOp a.eval o).run P w=.ok (.value (.map (some w.heap.size))) (w.alloc (.map #[] 0))∧(execOp a.eval o).events P w #[]=#[]:=by
 constructor
 ·unfold execOp
  simp only [hop]
  simp [Instr.makeMap,go_sem]
 ·unfold execOp
  simp only [hop]
  simp [Instr.makeMap,go_sem]
theorem qcE {t:TypeId} {z:Value} (hop:o.op=.alloc t) (hz:∀w,(zeroValue t).run P w=.ok z w) (w:World):(execOp a.eval o).run P w=.ok (.value (.pointer (some ⟨w.heap.size,0,none⟩))) (w.alloc (.cells z.cells t (0,0)))∧(execOp a.eval o).events P w #[]=#[]:=by
 constructor
 ·unfold execOp
  simp only [hop]
  go_simp
 ·unfold execOp
  simp only [hop]
  simp [go_sem,hz]
theorem GoJ.box {t:TypeId} {x:Operand} {z:Value} (ho:ops[i]? = some o) (hg:o.guard=none) (hk:b.kind≠.early) (hbx:∀c,Bx c→c < w.heap.size) (hop:o.op=.box t x) (hx:a.eval x=z)
 (k:GoJ P m S Bx Stop n (G (b.at (a.put o.dst (.pointer (some ⟨w.heap.size,0,none⟩))) (.inRegion ops rest :: kk)) cs) (w.alloc (.cells z.cells t (0,0)))):GoJ P m S Bx Stop (n+1) (G (b.at a (.inRegion ops (i :: rest) :: kk)) cs) w :=
 GoJ.new ho hg hk hbx (fun d=>ZL hop hx (w.at d)) k
theorem GoJ.chan {t e:TypeId} {dir:ChanDir} {inf:TypeInfo} {x:Operand} (ho:ops[i]? = some o) (hg:o.guard=none) (hk:b.kind≠.early) (hbx:∀c,Bx c→c < w.heap.size) (hop:o.op=.makeChan t x) (hx:a.eval x=.int .i64 (0:Nat)) (ht:P.underlying t=some (.chan dir e)) (hi:P.info? e=some inf)
 (k:GoJ P m S Bx Stop n (G (b.at (a.put o.dst (.chan (some w.heap.size))) (.inRegion ops rest :: kk)) cs) (w.alloc (.chan 0 #[] false 0 0 false))):GoJ P m S Bx Stop (n+1) (G (b.at a (.inRegion ops (i :: rest) :: kk)) cs) w :=
 GoJ.new ho hg hk hbx (fun d=>chan_run (n:=0) hop hx ht hi (by decide) (by simp) (w.at d)) k
theorem GoJ.map {t:TypeId} (ho:ops[i]? = some o) (hg:o.guard=none) (hk:b.kind≠.early) (hbx:∀c,Bx c→c < w.heap.size) (hop:o.op=.makeMap t none)
 (k:GoJ P m S Bx Stop n (G (b.at (a.put o.dst (.map (some w.heap.size))) (.inRegion ops rest :: kk)) cs) (w.alloc (.map #[] 0))):GoJ P m S Bx Stop (n+1) (G (b.at a (.inRegion ops (i :: rest) :: kk)) cs) w :=
 GoJ.new ho hg hk hbx (fun d=>qdR hop (w.at d)) k
theorem GoJ.alloc {t:TypeId} {z:Value} (ho:ops[i]? = some o) (hg:o.guard=none) (hk:b.kind≠.early) (hbx:∀c,Bx c→c < w.heap.size) (hop:o.op=.alloc t) (hz:∀w,(zeroValue t).run P w=.ok z w)
 (k:GoJ P m S Bx Stop n (G (b.at (a.put o.dst (.pointer (some ⟨w.heap.size,0,none⟩))) (.inRegion ops rest :: kk)) cs) (w.alloc (.cells z.cells t (0,0)))):GoJ P m S Bx Stop (n+1) (G (b.at a (.inRegion ops (i :: rest) :: kk)) cs) w :=
 GoJ.new ho hg hk hbx (fun d=>qcE hop hz (w.at d)) k
theorem GoJ.copy {x:Operand} {z:Value} (ho:ops[i]? = some o) (hg:o.guard=none) (hk:b.kind≠.early) (hop:o.op=.assign x∨o.op=.move x) (hx:a.eval x=z)
 (k:GoJ P m S Bx Stop n (G (b.at (a.put o.dst z) (.inRegion ops rest :: kk)) cs) w):GoJ P m S Bx Stop (n+1) (G (b.at a (.inRegion ops (i :: rest) :: kk)) cs) w :=
 GoJ.pure ho hg hk (fun w=>by
  unfold execOp
  rcases hop with hop | hop <;> simp only [hop,hx] <;> constructor <;> simp [go_sem]) k
theorem GoJ.storeC {t e:TypeId} {x y:Operand} {bk c:Nat} {u:Value} (ho:ops[i]? = some o) (hg:o.guard=none) (hk:b.kind≠.early) (hop:o.op=.store t x y) (hx:a.eval x=.pointer (some ⟨bk,0,none⟩)) (hy:a.eval y=.chan (some c)) (hsz:∀w,(sizeOf t).run P w=.ok 1 w)
 (hS:¬ S bk) (hX:¬ Bx bk) (hc:w.heap[bk]? = some (.cells #[u] e (0,0)))
 (k:∀w2:World,w2.heap.size=w.heap.size→(∀z,z≠bk→w2.heap[z]? = w.heap[z]?)→w2.heap[bk]? = some (.cells #[.chan (some c)] e (0,0))→w2.tape=w.tape∧w2.os=w.os∧w2.output=w.output→GoJ P m S Bx Stop n (G (b.at (a.put o.dst undef) (.inRegion ops rest :: kk)) cs) w2):GoJ P m S Bx Stop (n+1) (G (b.at a (.inRegion ops (i :: rest) :: kk)) cs) w:=by
 have c0:∀d,(w.at d).cell? ⟨bk,0,none⟩=some u:=fun d=>by show w.cell? _=_;simp [World.cell?,hc]
 have z0:∀d,(w.at d).frozen? ⟨bk,0,none⟩=false:=fun d=>by show w.frozen? _=_;simp [World.frozen?,hc]
 have hc2:(w.setCell ⟨bk,0,none⟩ (.chan (some c))).heap[bk]? = some (.cells #[.chan (some c)] e (0,0)):=by
  rw [setCell_eq_setRow w bk 0 _ e (0,0) _ hc,setRow_heap w bk _ _ e _ hc];rfl
 have hA:=aside_setCell w ⟨bk,0,none⟩ (.chan (some c))
 have hr:∀d,(execOp a.eval o).run P (w.at d)=.ok .skip ((w.setCell ⟨bk,0,none⟩ (.chan (some c))).at d):=fun d=>by
  have e:(w.setCell ⟨bk,0,none⟩ (.chan (some c))).at d=(w.at d).setCell ⟨bk,0,none⟩ (.chan (some c)):=by
   rw [setCell_eq_setRow w bk 0 _ e (0,0) _ hc,setCell_eq_setRow (w.at d) bk 0 _ e (0,0) _ hc];rfl
  rw [e]
  unfold execOp
  simp only [hop,hx,hy]
  simp [go_sem,stored,c0 d,z0 d,hsz]
 have he:∀d,(execOp a.eval o).events P (w.at d) #[]=#[⟨.cell ⟨bk,0,none⟩,true,false⟩]:=fun d=>by
  unfold execOp
  simp only [hop,hx,hy]
  simp [go_sem,storedEv,c0 d,z0 d,hsz]
 have hlt:bk < w.heap.size:=(Array.getElem?_eq_some_iff.1 hc).1
 refine GoJ.skip ho hg hk hr (fun d=>⟨Nat.le_of_eq hA.size.symm,fun z hz=>hA.block z fun (e:z=bk)=>hX (by rw [← e];exact hz),fun ev hev=>?_⟩) (k _ hA.size (fun z hz=>hA.block z hz) hc2 ⟨hA.tape,hA.os,hA.output⟩)
 have:=mem_listed hev
 rw [he] at this
 simp at this
 subst this
 exact qcV hS hX (by show bk < (w.setCell _ _).heap.size;rw [hA.size];exact hlt)
theorem GoJ.load {t:TypeId} {x:Operand} {ad:Addr} {v:Value} {c:Array Value} {e:TypeId} {f:Nat×Nat} (ho:ops[i]? = some o) (hg:o.guard=none) (hk:b.kind≠.early) (hop:o.op=.load t x) (hx:a.eval x=.pointer (some ad))
 (hS:¬ S ad.block) (hc:w.heap[ad.block]? = some (.cells c e f)) {w0:World} (hb0:w0.heap[ad.block]? = some (.cells c e f)) (hl:(Instr.loadAt t (.pointer (some ad))).run P w0=.ok v w0)
 (k:GoJ P m S Bx Stop n (G (b.at (a.put o.dst v) (.inRegion ops rest :: kk)) cs) w):GoJ P m S Bx Stop (n+1) (G (b.at a (.inRegion ops (i :: rest) :: kk)) cs) w:=by
 have h:∀d,(Instr.loadAt t (.pointer (some ad))).run P (w.at d)=.ok v (w.at d)∧Reads ad.block ((Instr.loadAt t (.pointer (some ad))).events P (w.at d) #[]):=fun d=>(yU (w:=w0) (w2:=w.at d) hb0 (show w.heap[ad.block]? = _ by rw [hc,hb0]) hl).2
 refine GoJ.val (w1:=w) ho hg hk (fun d=>?_) (fun d=>⟨Nat.le_refl _,fun _ _=>rfl,fun ev hev=>?_⟩) k
 ·unfold execOp
  simp only [hop,hx,Sem.run_bind,(h d).1,Result.andThen_ok,Sem.run_pure]
 ·have hlt:ad.block < w.heap.size:=(Array.getElem?_eq_some_iff.1 hc).1
  have h2:=mem_listed hev
  have e1:(execOp a.eval o).events P (w.at d) #[]=(Instr.loadAt t (.pointer (some ad))).events P (w.at d) #[]:=by
   unfold execOp
   simp only [hop,hx,Sem.events_bind,(h d).1,Result.evThen_ok,Sem.events_pure]
  rw [e1] at h2
  obtain ⟨off,sp,rfl⟩:=(h d).2 _ h2
  exact evJ_read hS hlt
end
end Go.Sim
namespace Go.Sim
open Go
theorem xw:∀v':Value,∃x,(∀(C:FuncId→Prop) (R:Nat→Nat→Prop),VR C R x v')∧∀(C:FuncId→Prop) (R:Nat→Nat→Prop),VR C R x x
 | .bool b=>⟨.bool b,fun _ _=>.bool b,fun _ _=>.bool b⟩
 | .int k n=>⟨.int k n,fun _ _=>.int k n,fun _ _=>.int k n⟩
 | .string s=>⟨.string s,fun _ _=>.string s,fun _ _=>.string s⟩
 | .nilFunc=>⟨.nilFunc,fun _ _=>.nilFunc,fun _ _=>.nilFunc⟩
 | .nilIface=>⟨.nilIface,fun _ _=>.nilIface,fun _ _=>.nilIface⟩
 | .agg xs=>by
   have h:∀i:Fin xs.size,∃x,(∀(C:FuncId→Prop) (R:Nat→Nat→Prop),VR C R x xs[i])∧∀(C:FuncId→Prop) (R:Nat→Nat→Prop),VR C R x x:=fun i=>xw xs[i]
   refine ⟨.agg (Array.ofFn fun i=>(h i).choose),fun C R=>.agg (by simp) fun i x x' e e'=>?_,fun C R=>.agg rfl fun i x x' e e'=>?_⟩
   ·obtain ⟨hi,rfl⟩:=Array.getElem?_eq_some_iff.1 e'
    have:(Array.ofFn fun i:Fin xs.size=>(h i).choose)[i]? = some (h ⟨i,hi⟩).choose:=by simp [hi]
    rw [this] at e;cases e
    exact (h ⟨i,hi⟩).choose_spec.1 C R
   ·have hi:i < xs.size:=by have:=(Array.getElem?_eq_some_iff.1 e).1;simpa using this
    have:(Array.ofFn fun i:Fin xs.size=>(h i).choose)[i]? = some (h ⟨i,hi⟩).choose:=by simp [hi]
    rw [this] at e e';cases e;cases e'
    exact (h ⟨i,hi⟩).choose_spec.2 C R
 | .tuple xs=>by
   have h:∀i:Fin xs.size,∃x,(∀(C:FuncId→Prop) (R:Nat→Nat→Prop),VR C R x xs[i])∧∀(C:FuncId→Prop) (R:Nat→Nat→Prop),VR C R x x:=fun i=>xw xs[i]
   refine ⟨.tuple (Array.ofFn fun i=>(h i).choose),fun C R=>.tuple (by simp) fun i x x' e e'=>?_,fun C R=>.tuple rfl fun i x x' e e'=>?_⟩
   ·obtain ⟨hi,rfl⟩:=Array.getElem?_eq_some_iff.1 e'
    have:(Array.ofFn fun i:Fin xs.size=>(h i).choose)[i]? = some (h ⟨i,hi⟩).choose:=by simp [hi]
    rw [this] at e;cases e
    exact (h ⟨i,hi⟩).choose_spec.1 C R
   ·have hi:i < xs.size:=by have:=(Array.getElem?_eq_some_iff.1 e).1;simpa using this
    have:(Array.ofFn fun i:Fin xs.size=>(h i).choose)[i]? = some (h ⟨i,hi⟩).choose:=by simp [hi]
    rw [this] at e e';cases e;cases e'
    exact (h ⟨i,hi⟩).choose_spec.2 C R
 | .float k b=>⟨.tuple #[],fun _ _=>.junk rfl,fun _ _=>VR.undef⟩
 | .complex k a b=>⟨.tuple #[],fun _ _=>.junk rfl,fun _ _=>VR.undef⟩
 | .pointer none=>⟨.pointer none,fun _ _=>.pnil,fun _ _=>.pnil⟩
 | .pointer (some a)=>⟨.tuple #[],fun _ _=>.junk rfl,fun _ _=>VR.undef⟩
 | .slice a l c=>⟨.tuple #[],fun _ _=>.junk rfl,fun _ _=>VR.undef⟩
 | .map r=>⟨.tuple #[],fun _ _=>.junk rfl,fun _ _=>VR.undef⟩
 | .chan r=>⟨.tuple #[],fun _ _=>.junk rfl,fun _ _=>VR.undef⟩
 | .func (.method n) a b=>⟨.func (.method "") #[.nilIface] #[],fun _ _=>.meth n a b,fun _ _=>.meth _ _ _⟩
 | .func f a b=>by
   cases f with
   | method n=>exact ⟨.func (.method "") #[.nilIface] #[],fun _ _=>.meth n a b,fun _ _=>.meth _ _ _⟩
   | _=>exact ⟨.tuple #[],fun _ _=>.junk rfl,fun _ _=>VR.undef⟩
 | .iface t v=>⟨.tuple #[],fun _ _=>.junk rfl,fun _ _=>VR.undef⟩
termination_by v=>SizeOf.sizeOf v
decreasing_by
 all_goals
  have:=Array.sizeOf_getElem xs i.1 i.2
  simp
  omega
section
variable (BK:Nat→Prop)
open Classical in
noncomputable def pl (v:Value):Value:=if (∃a l c,v=.slice (some a) l c∧BK a.block)∨(∃l c,v=.slice none l c)∨(∃a,v=.slice (some a) 0 0) then v else (xw v).choose
variable {BK}
theorem qen {C:FuncId→Prop} {R:Nat→Nat→Prop} (h:∀b,BK b→R b b) (v:Value):VR C R (pl BK v) v:=by
 unfold pl
 split
 ·rename_i hx
  rcases hx with ⟨a,l,c,rfl,hb⟩ | ⟨l,c,rfl⟩ | ⟨a,rfl⟩
  ·exact .slice l c ⟨h _ hb,rfl,rfl⟩
  ·exact .snil _ _
  ·exact .zcap a
 ·exact (xw v).choose_spec.1 C R
theorem pl_self {C:FuncId→Prop} {R:Nat→Nat→Prop} (h:∀b,BK b→R b b) (v:Value):VR C R (pl BK v) (pl BK v):=by
 unfold pl
 split
 ·rename_i hx
  rcases hx with ⟨a,l,c,rfl,hb⟩ | ⟨l,c,rfl⟩ | ⟨a,rfl⟩
  ·exact .slice l c ⟨h _ hb,rfl,rfl⟩
  ·exact .snil _ _
  ·exact .zcap a
 ·exact (xw v).choose_spec.2 C R
theorem VR.int_eq {C:FuncId→Prop} {R:Nat→Nat→Prop} {x:Value} {k:IntKind} {n:Int} (h:VR C R x (.int k n)):x=.int k n:=by
 cases h with
 | int=>rfl
 | junk h=>simp [xy] at h
theorem VR.string_eq {C:FuncId→Prop} {R:Nat→Nat→Prop} {x:Value} {s:ByteArray} (h:VR C R x (.string s)):x=.string s:=by
 cases h with
 | string=>rfl
 | junk h=>simp [xy] at h
theorem pl_int {k:IntKind} {n:Int}:pl BK (.int k n)=.int k n:=(qen (C:=fun _=>True) (R:=fun _ _=>True) (fun _ _=>trivial) _).int_eq
theorem pl_string {s:ByteArray}:pl BK (.string s)=.string s:=(qen (C:=fun _=>True) (R:=fun _ _=>True) (fun _ _=>trivial) _).string_eq
theorem pl_slice {a:Addr} {l c:Nat} (h:BK a.block):pl BK (.slice (some a) l c)=.slice (some a) l c:=by
 unfold pl;rw [if_pos (.inl ⟨a,l,c,rfl,h⟩)]
theorem pl_snil {l c:Nat}:pl BK (.slice none l c)=.slice none l c:=by
 unfold pl;rw [if_pos (.inr (.inl ⟨l,c,rfl⟩))]
theorem pl_zcap {a:Addr}:pl BK (.slice (some a) 0 0)=.slice (some a) 0 0:=by
 unfold pl;rw [if_pos (.inr (.inr ⟨a,rfl⟩))]
variable (BK) (Gl:Nat→Prop)
open Classical in
noncomputable def Js (bs:Array Obj) (w:World) (i:Nat):Obj :=
 if Gl i then (bs[i]?).getD (.cells #[] 0 (0,0)) else if BK i then (match w.heap[i]? with | some (.cells c e f)=>.cells (c.map (pl fun b=>BK b∨Gl b)) e (0,max (max c.size f.2) 1) | _=>.cells #[] 0 (0,0)) else .cells #[] 0 (0,0)
noncomputable def xS (bs:Array Obj) (w:World):World:={ w with heap:=Array.ofFn (n:=w.heap.size) fun i=>Js BK Gl bs w i.1 }
variable {BK Gl} {bs:Array Obj} {w:World}
theorem jF:(xS BK Gl bs w).heap.size=w.heap.size:=by simp [xS]
theorem Yr {i:Nat} (h:i < w.heap.size):(xS BK Gl bs w).heap[i]? = some (Js BK Gl bs w i):=by simp [xS,h]
theorem jE {i:Nat} {c:Array Value} {e:TypeId} {f:Nat×Nat} (h:w.heap[i]? = some (.cells c e f)) (hb:BK i) (hg:¬ Gl i):(xS BK Gl bs w).heap[i]? = some (.cells (c.map (pl fun b=>BK b∨Gl b)) e (0,max (max c.size f.2) 1)):=by
 rw [Yr (Array.getElem?_eq_some_iff.1 h).1]
 unfold Js
 rw [if_neg hg,if_pos hb,h]
theorem qcu {a:Addr} {v:Value} (h:w.cell? a=some v) (hb:BK a.block) (hg:¬ Gl a.block):(xS BK Gl bs w).cell? a=some ((pl fun b=>BK b∨Gl b) v):=by
 unfold World.cell? at h ⊢
 cases e:w.heap[a.block]? with
 | none=>rw [e] at h;cases h
 | some o =>
   rw [e] at h
   cases o with
   | cells c t f =>
     rw [jE e hb hg]
     simp only at h ⊢
     split at h
     ·cases h
     ·rw [if_neg ‹_›];simp [h]
   | _=>cases h
theorem yP {i:Nat} {o:Obj} (hi:i < w.heap.size) (hg:Gl i) (h:bs[i]? = some o):(xS BK Gl bs w).heap[i]? = some o:=by
 rw [Yr hi]
 unfold Js
 rw [if_pos hg,h];rfl
def RS (BK Gl:Nat→Prop) (b c:Nat):Prop:=b=c∧(BK b∨Gl b)
theorem qaw (hG:∀b,Gl b→∃c e hi,bs[b]? = some (.cells c e (0,hi))∧c.size≤hi):yE (xS BK Gl bs w):=fun b x h=>by
 have hb:b < w.heap.size:=by have:=(Array.getElem?_eq_some_iff.1 h).1;rwa [jF] at this
 rw [Yr hb] at h
 exfalso
 unfold Js at h
 split at h
 ·obtain ⟨c,e,hi,e1,_⟩:=hG b ‹_›
  rw [e1] at h;simp at h
 ·split at h
  ·split at h <;> simp at h
  ·simp at h
theorem fz_max {c f1 f2:Nat}:FzR (0,max (max c f2) 1) (f1,f2):=.inr ⟨rfl,by show 0 < max (max c f2) 1;omega,by show f2≤max (max c f2) 1;omega⟩
theorem qdm {n:Nat} (h:0 < n):FzR (0,n) (0,n):=.inr ⟨rfl,h,Nat.le_refl _⟩
theorem small_w0 {K:Cfg} (hBK:∀b,BK b→∃c e f,w.heap[b]? = some (.cells c e f)) (hng:K.ng≤w.heap.size) (hGw:∀b,Gl b→∃o o',bs[b]? = some o∧w.heap[b]? = some o'∧OR K.C K.D (RS BK Gl) o o')
 (hG:∀b,Gl b→∃c e hi,bs[b]? = some (.cells c e (0,hi))∧c.size≤hi) (hd:∀b,BK b→¬ Gl b) (hFz:∀b,K.Fz b↔BK b∨Gl b):W0 K (RS BK Gl) (xS BK Gl bs w) w:=by
 refine ⟨fun b c d h k=>h.1.symm.trans k.1,fun b c d h k=>h.1.trans k.1.symm,?_,fun b hb=>?_,fun b c h=>by rw [h.1],by rw [jF];exact hng,hng⟩
 ·rintro b c ⟨rfl,hb⟩
  by_cases hg:Gl b
  ·obtain ⟨o,o',h1,h2,h3⟩:=hGw b hg
   exact ⟨o,o',yP (Array.getElem?_eq_some_iff.1 h2).1 hg h1,h2,h3⟩
  ·have hb:=hb.resolve_right hg
   obtain ⟨c,e,f,h⟩:=hBK b hb
   refine ⟨_,_,jE h hb hg,h,.cells e ?_ fz_max⟩
   have:=AR.map (C:=K.C) (R:=RS BK Gl) c (f:=(pl fun b=>BK b∨Gl b)) (g:=id) fun x _=>qen (fun b hb=>⟨rfl,hb⟩) x
   simpa using this
 ·rcases (hFz b).1 hb with hb | hg
  ·by_cases hg:Gl b
   ·exact absurd hg (hd b hb)
   ·obtain ⟨c,e,f,h⟩:=hBK b hb
    exact ⟨_,_,_,jE h hb hg,by simp;omega⟩
  ·obtain ⟨o,o',h1,h2,_⟩:=hGw b hg
   obtain ⟨c,e,hi,e1,e2⟩:=hG b hg
   exact ⟨c,e,hi,yP (Array.getElem?_eq_some_iff.1 h2).1 hg e1,e2⟩
theorem qcv {K:Cfg} (hBK:∀b,BK b→∃c e f,w.heap[b]? = some (.cells c e f)) (hng:K.ng≤w.heap.size) (hGw:∀b,Gl b→b < w.heap.size∧∃o,bs[b]? = some o∧OR K.C K.D (RS BK Gl) o o)
 (hG:∀b,Gl b→∃c e hi,bs[b]? = some (.cells c e (0,hi))∧c.size≤hi) (hd:∀b,BK b→¬ Gl b) (hFz:∀b,K.Fz b↔BK b∨Gl b):W0 K (RS BK Gl) (xS BK Gl bs w) (xS BK Gl bs w):=by
 refine ⟨fun b c d h k=>h.1.symm.trans k.1,fun b c d h k=>h.1.trans k.1.symm,?_,fun b hb=>?_,fun b c h=>by rw [h.1],by rw [jF];exact hng,by rw [jF];exact hng⟩
 ·rintro b c ⟨rfl,hb⟩
  by_cases hg:Gl b
  ·obtain ⟨hl,o,h1,h3⟩:=hGw b hg
   exact ⟨o,o,yP hl hg h1,yP hl hg h1,h3⟩
  ·have hb:=hb.resolve_right hg
   obtain ⟨c,e,f,h⟩:=hBK b hb
   refine ⟨_,_,jE h hb hg,jE h hb hg,.cells e ?_ (qdm (by omega))⟩
   exact AR.map c fun x _=>pl_self (fun b hb=>⟨rfl,hb⟩) x
 ·rcases (hFz b).1 hb with hb | hg
  ·by_cases hg:Gl b
   ·exact absurd hg (hd b hb)
   ·obtain ⟨c,e,f,h⟩:=hBK b hb
    exact ⟨_,_,_,jE h hb hg,by simp;omega⟩
  ·obtain ⟨hl,o,h1,_⟩:=hGw b hg
   obtain ⟨c,e,hi,e1,e2⟩:=hG b hg
   exact ⟨c,e,hi,yP hl hg e1,e2⟩
end
end Go.Sim
namespace Go.Sim
open Go Go.Instr Go.Conc
def cfgOf (P' P:Program) (c g:Nat→Bool) (Fz:Nat→Prop) (bs bt:Array Obj):Cfg:={ C:=fun f=>c f=true,D:=fun f x=>Std P' P f∧zz P c g x=true,Fz:=Fz,lim:=0,ng:=P.globals.size,bs:=bs,bt:=bt }
section
variable {K:Cfg} {R:Nat→Nat→Prop} {w w' w1:World}
theorem W0.low (h:W0 K R w w') {b c:Nat} (hr:R b c):c < w'.heap.size:=by
 obtain ⟨_,_,_,h2,_⟩:=h.obj b c hr
 exact (Array.getElem?_eq_some_iff.1 h2).1
theorem W0.lowS (h:W0 K R w w') {b c:Nat} (hr:R b c):b < w.heap.size:=by
 obtain ⟨_,_,h1,_,_⟩:=h.obj b c hr
 exact (Array.getElem?_eq_some_iff.1 h1).1
theorem W0.grow (h:W0 K R w w') (e:∀c,c < w'.heap.size→w1.heap[c]? = w'.heap[c]?) (hs:w'.heap.size≤w1.heap.size):W0 K R w w1 :=
 ⟨h.fn,h.inj,fun b c hr=>let ⟨o,o',h1,h2,h3⟩:=h.obj b c hr;⟨o,o',h1,(e c (h.low hr)).trans h2,h3⟩,h.fz,h.glob,h.big,Nat.le_trans h.big' hs⟩
end
section
variable {P' P:Program} {K Ks:Cfg} {c g:Nat→Bool} {bs:Bs} {Fin:Goroutine→World→Prop}
def Or2 (R P2:Nat→Nat→Prop) (b c:Nat):Prop:=R b c∨P2 b c
theorem phase_end {S:Nat→Prop} {R P2:Nat→Nat→Prop} {q:Goroutine} {w w':World} {gs:Array Goroutine} {sl:Option (Nat×Nat)} {t:Trace} (hM:MS K Ks P' P g S R q w w')
 {cf cf':Frame} {cr cr':List Frame} (hk:FsR K P' P bs R (cf :: cr) (cf' :: cr')) {v v':Value} {w3 w3':World} (hDn:Dn Ks P' g Fin q w (G (cf.finish v) cr) w3) (hne:q≠G (cf.finish v) cr)
 (hs:∀b,b < w.heap.size→w3.heap[b]? = w.heap[b]?) (hsz:w.heap.size≤w3.heap.size) (hs':∀c,c < w'.heap.size→w3'.heap[c]? = w'.heap[c]?) (hsz':w'.heap.size≤w3'.heap.size)
 {N:Nat} {gs1:Array Goroutine} {sl1:Option (Nat×Nat)} {t1:Trace} {S1:Nat→Prop} (hrun:runNT P N (crowd gs w' sl) t=(.next (crowd gs1 w3' sl1),t1)) (hR:RM P S1 gs1 (G (cf'.finish v') cr') w3' t1)
 (hSS:∀c,S1 c→S c∨w'.heap.size≤c) (hSl:∀c,S1 c→c < w3'.heap.size) (ht:w3'.tape=w'.tape) (ho:w3'.os=w'.os) (hp:w3'.output=w'.output)
 (hnew:∀b c,P2 b c→w.heap.size≤b∧w'.heap.size≤c∧¬ S1 c∧∃o o',w3.heap[b]? = some o∧w3'.heap[c]? = some o'∧OR K.C K.D (Or2 R P2) o o') (hfn:∀b c d,P2 b c→P2 b d→c=d) (hinj:∀b c d,P2 b d→P2 c d→b=c)
 (hv:VR K.C (Or2 R P2) v v') :
 ∃(N:Nat) (S1:Nat→Prop) (R1:Nat→Nat→Prop) (q1:Goroutine) (w1:World) (gs1:Array Goroutine) (a1:Goroutine) (w1':World) (sl1:Option (Nat×Nat)) (t1:Trace),
  runNT P N (crowd gs w' sl) t=(.next (crowd gs1 w1' sl1),t1)∧yD P' q w q1 w1∧GR K P' P bs R1 q1 a1∧MS K Ks P' P g S1 R1 q1 w1 w1'∧RM P S1 gs1 a1 w1' t1∧Ext0 K R R1 w w' w1 w1'∧∀c,S1 c→S c∨w'.heap.size≤c:=by
 have hle:∀b c,R b c→Or2 R P2 b c:=fun _ _ h=>.inl h
 have hk':=hk.mono hle
 have hF:=hk'.head.finish hv
 have hX:Ext0 K R (Or2 R P2) w w' w3 w3':=⟨hle,fun b c h=>h.imp id fun h=>⟨(hnew b c h).1,(hnew b c h).2.1⟩,hsz,hsz',fun c hc _=>hs' c hc,ht,ho,hp,fun b _ hb=>hs b hb⟩
 obtain ⟨_,_,_,hn,_⟩:=id hDn.self
 refine ⟨N,S1,Or2 R P2,_,w3,gs1,_,w3',sl1,t1,hrun,hDn.desc.below1 hne,.mk hF (GR.pop hk' hF (yH _ _)),⟨⟨?_,?_,?_,?_,?_,Nat.le_trans hM.w0.big hsz,Nat.le_trans hM.w0.big' hsz'⟩,hn,hDn.self,fun n h=>.inl (hM.glob n h),?_,hSl,ZA hM.keep hM.w0 hX⟩,hR,hX,hSS⟩
 ·intro b c d h k
  rcases h with h | h <;> rcases k with k | k
  ·exact hM.w0.fn _ _ _ h k
  ·have:=hM.w0.lowS h;have:=(hnew _ _ k).1;omega
  ·have:=hM.w0.lowS k;have:=(hnew _ _ h).1;omega
  ·exact hfn _ _ _ h k
 ·intro b c d h k
  rcases h with h | h <;> rcases k with k | k
  ·exact hM.w0.inj _ _ _ h k
  ·have:=hM.w0.low h;have:=(hnew _ _ k).2.1;omega
  ·have:=hM.w0.low k;have:=(hnew _ _ h).2.1;omega
  ·exact hinj _ _ _ h k
 ·intro b c h
  rcases h with h | h
  ·obtain ⟨o,o',h1,h2,h3⟩:=hM.w0.obj b c h
   exact ⟨o,o',(hs b (hM.w0.lowS h)).trans h1,(hs' c (hM.w0.low h)).trans h2,h3.mono hle⟩
  ·exact (hnew b c h).2.2.2
 ·intro b hb
  obtain ⟨c,e,hi,h1,h2⟩:=hM.w0.fz b hb
  exact ⟨c,e,hi,(hs b (Array.getElem?_eq_some_iff.1 h1).1).trans h1,h2⟩
 ·intro b c h
  rcases h with h | h
  ·exact hM.w0.glob b c h
  ·have h1:=hnew b c h
   have:=hM.w0.big;have:=hM.w0.big'
   omega
 ·intro b c h hc
  rcases h with h | h
  ·rcases hSS c hc with x | x
   ·exact hM.shun b c h x
   ·have:=hM.w0.low h;omega
  ·exact (hnew b c h).2.2.1 hc
theorem JP {bs:Bs} {S Sm:Nat→Prop} {R Rm:Nat→Nat→Prop} {q qm:Goroutine} {w w' wm wm':World} {gs gsm:Array Goroutine} {sl slm:Option (Nat×Nat)} {t tm:Trace} {N0:Nat} (hrun:runNT P N0 (crowd gs w' sl) t=(.next (crowd gsm wm' slm),tm)) (hb:yD P' q w qm wm) (hX:Ext0 K R Rm w w' wm wm') (hSS:∀c,Sm c→S c∨w'.heap.size≤c)
 (h:∃(N:Nat) (S1:Nat→Prop) (R1:Nat→Nat→Prop) (q1:Goroutine) (w1:World) (gs1:Array Goroutine) (a1:Goroutine) (w1':World) (sl1:Option (Nat×Nat)) (t1:Trace),
   runNT P N (crowd gsm wm' slm) tm=(.next (crowd gs1 w1' sl1),t1)∧yD P' qm wm q1 w1∧GR K P' P bs R1 q1 a1∧MS K Ks P' P g S1 R1 q1 w1 w1'∧RM P S1 gs1 a1 w1' t1∧Ext0 K Rm R1 wm wm' w1 w1'∧∀c,S1 c→Sm c∨wm'.heap.size≤c) :
 ∃(N:Nat) (S1:Nat→Prop) (R1:Nat→Nat→Prop) (q1:Goroutine) (w1:World) (gs1:Array Goroutine) (a1:Goroutine) (w1':World) (sl1:Option (Nat×Nat)) (t1:Trace),
  runNT P N (crowd gs w' sl) t=(.next (crowd gs1 w1' sl1),t1)∧yD P' q w q1 w1∧GR K P' P bs R1 q1 a1∧MS K Ks P' P g S1 R1 q1 w1 w1'∧RM P S1 gs1 a1 w1' t1∧Ext0 K R R1 w w' w1 w1'∧∀c,S1 c→S c∨w'.heap.size≤c:=by
 obtain ⟨N,S1,R1,q1,w1,gs1,a1,w1',sl1,t1,r1,r2,r3,r4,r5,r6,r7⟩:=h
 exact ⟨N0+N,S1,R1,q1,w1,gs1,a1,w1',sl1,t1,qO hrun r1,Desc.below_or hb r2.desc,r3,r4,r5,hX.trans r6,fun c hc=>(r7 c hc).elim (hSS c) fun h=>.inr (Nat.le_trans hX.size' h)⟩
theorem Bs.ne (bs:Bs):bs.src≠[]:=fun e=>by
 have:=bs.bad
 rw [e] at this
 cases this
end
section
variable {P' P:Program} {K:Cfg} {c g:Nat→Bool} {Sp:FuncId→Prop} {R P2:Nat→Nat→Prop} {w w' w3 w3':World}
theorem W0.add (h:W0 K R w w') (hs:∀b,b < w.heap.size→w3.heap[b]? = w.heap[b]?) (hsz:w.heap.size≤w3.heap.size) (hs':∀c,c < w'.heap.size→w3'.heap[c]? = w'.heap[c]?) (hsz':w'.heap.size≤w3'.heap.size)
 (hnew:∀b c,P2 b c→w.heap.size≤b∧w'.heap.size≤c∧∃o o',w3.heap[b]? = some o∧w3'.heap[c]? = some o'∧OR K.C K.D (Or2 R P2) o o') (hfn:∀b c d,P2 b c→P2 b d→c=d) (hinj:∀b c d,P2 b d→P2 c d→b=c):W0 K (Or2 R P2) w3 w3':=by
 have hle:∀b c,R b c→Or2 R P2 b c:=fun _ _ h=>.inl h
 refine ⟨?_,?_,?_,?_,?_,Nat.le_trans h.big hsz,Nat.le_trans h.big' hsz'⟩
 ·intro b c d x k
  rcases x with x | x <;> rcases k with k | k
  ·exact h.fn _ _ _ x k
  ·have:=h.lowS x;have:=(hnew _ _ k).1;omega
  ·have:=h.lowS k;have:=(hnew _ _ x).1;omega
  ·exact hfn _ _ _ x k
 ·intro b c d x k
  rcases x with x | x <;> rcases k with k | k
  ·exact h.inj _ _ _ x k
  ·have:=h.low x;have:=(hnew _ _ k).2.1;omega
  ·have:=h.low k;have:=(hnew _ _ x).2.1;omega
  ·exact hinj _ _ _ x k
 ·intro b c x
  rcases x with x | x
  ·obtain ⟨o,o',h1,h2,h3⟩:=h.obj b c x
   exact ⟨o,o',(hs b (h.lowS x)).trans h1,(hs' c (h.low x)).trans h2,h3.mono hle⟩
  ·exact (hnew b c x).2.2
 ·intro b hb
  obtain ⟨c,e,hi,h1,h2⟩:=h.fz b hb
  exact ⟨c,e,hi,(hs b (Array.getElem?_eq_some_iff.1 h1).1).trans h1,h2⟩
 ·intro b c x
  rcases x with x | x
  ·exact h.glob b c x
  ·have h1:=hnew b c x
   have:=h.big;have:=h.big'
   omega
theorem Qm (Z:Cov K P' P c g Sp) (h:W0 K R w w') {ad ad':Addr} (hr:qF R ad ad') {t:TypeId} {xs:Array Value} {e:TypeId} {f:Nat×Nat} {v:Value} {w1:World} (hb:w.heap[ad.block]? = some (.cells xs e f)) (hl:(Instr.loadAt t (.pointer (some ad))).run P' w=.ok v w1) :
 w1=w∧∃v',(Instr.loadAt t (.pointer (some ad'))).run P w'=.ok v' w'∧VR K.C R v v':=by
 obtain ⟨h1,_,_⟩:=yU hb rfl hl
 refine ⟨h1,?_⟩
 let τ:Nat→Question→Nat:=fun n z=>w'.tape (w'.drawn+(n - w.drawn)) z
 have hrun:=(yU (w2:=w.tp τ) hb rfl hl).2.1
 have hwr:WR (K.at w.drawn) R (w.tp τ) w':=W0.wr (⟨h.fn,h.inj,h.obj,h.fz,h.glob,h.big,h.big'⟩:W0 K R (w.tp τ) w') _ fun j z _=>by
  show w'.tape (w'.drawn+j) z=w'.tape (w'.drawn+(w.drawn+j - w.drawn)) z
  rw [Nat.add_sub_cancel_left]
 obtain ⟨R2,v',w2',e1,e2,e3,_,e5,_⟩:=(qg.loadAt (K:=K.at w.drawn) (P':=P') (P:=P) (R:=R) Z.toSame t (.ptr hr) _ _ hwr).1 v _ hrun (Nat.le_refl _)
 have hb':∃xs' f',w'.heap[ad'.block]? = some (.cells xs' e f'):=by
  obtain ⟨o,o',k1,k2,k3⟩:=h.obj _ _ hr.1
  rw [hb] at k1
  obtain rfl:=(Option.some.inj k1).symm
  cases k3 with
  | cells=>exact ⟨_,_,k2⟩
 obtain ⟨xs',f',hb'⟩:=hb'
 obtain ⟨hw2,_,_⟩:=yU hb' rfl e1
 subst hw2
 refine ⟨v',e1,VR.mono (fun b c hr=>?_) e5⟩
 rcases e3.new b c hr with x | ⟨_,x⟩
 ·exact x
 ·obtain ⟨_,o',_,h6,_⟩:=e2.obj b c hr
  have:=(Array.getElem?_eq_some_iff.1 h6).1
  exact absurd x (Nat.not_le.2 this)
end
end Go.Sim
section
namespace Go.Sim
open Go Go.Conc
open Go.ConcN (upd upd_ne upd_same)
def qeJ:Value→Array Value
 | .agg ys=>ys
 | _=>#[]
def fT (n:Nat) (v:Nat→Value):Array Value:=Array.ofFn (n:=n) (fun i=>v i.1) ++ qeJ (v n)
def JG (n:Nat) (xs:Array Value) (k:Nat):Value:=if k < n then xs.getD k undef else .agg (xs.extract n xs.size)
section
variable {n k:Nat} {v:Nat→Value} {x:Value} {ds:List Deferred}
theorem qda (hk:k < n):(fT n v).getD k undef=v k:=by
 simp [fT,Array.getD,Array.getElem_append,hk,Nat.lt_of_lt_of_le hk (Nat.le_add_right n _)]
theorem qE (hk:k < n):Go.Act.eval ⟨fT n v,ds⟩ (.tmp k)=v k:=qda hk
theorem ofFn_upd {f:Nat→Value} (hk:k < n):(Array.ofFn (n:=n) fun i=>f i.1).setIfInBounds k x=Array.ofFn (n:=n) fun i=>upd f k x i.1:=by
 apply Array.ext
 ·simp
 ·intro i h1 h2
  simp only [Array.size_setIfInBounds,Array.size_ofFn] at h1
  rw [Array.getElem_setIfInBounds (by simpa using h1)]
  simp only [Array.getElem_ofFn,upd]
  by_cases e:k=i
  ·simp [e]
  ·simp [e,Ne.symm e]
theorem yg (hk:k < n):Go.Act.put ⟨fT n v,ds⟩ (some k) x=⟨fT n (upd v k x),ds⟩:=by
 have e:(fT n v).setIfInBounds k x=fT n (upd v k x):=by
  unfold fT
  rw [upd_ne _ _ (show n≠k by omega),← ofFn_upd hk]
  exact Array.setIfInBounds_append_left (by simpa using hk)
 rw [← e];rfl
theorem qdb:Go.Act.put ⟨fT n v,ds⟩ none x=⟨fT n v,ds⟩:=rfl
theorem fT_ent (xs:Array Value):xs ++ Array.replicate (n - xs.size) undef=fT n (JG n xs):=by
 have hs:(fT n (JG n xs)).size=n+(xs.size - n):=by simp [fT,JG,qeJ]
 apply Array.ext
 ·rw [hs];simp;omega
 ·intro i h1 h2
  by_cases h:i < n
  ·simp [fT,JG,Array.getElem_append,h,Array.getD]
  ·have hx:i < xs.size:=by simp at h1;omega
   simp only [fT,JG,qeJ,Array.getElem_append,hx,Array.size_ofFn,h,dif_pos,dif_neg,not_false_iff]
   simp only [Nat.lt_irrefl,if_false,Array.getElem_extract]
   congr 1;omega
theorem qaR {P:Program} {f:FuncId} {fn:Func} {c:Code} (xs:Array Value) (hf:P.funcs[f]? = some fn) (hb:fn.body=some c) (hn:fn.ntmps=n):Frame.enter P f xs .normal=(base f).at ⟨fT n (JG n xs),[]⟩ [.code c]:=by
 rw [enter_at xs hf hb,hn,fT_ent]
theorem qcI (f:FuncId):(base f).kind≠.early:=by intro h;cases h
end
section
variable {K:Cfg} {P':Program} {c g:Nat→Bool} {Fin:Goroutine→World→Prop} {q0:Goroutine} {w0 w w1:World} {b:Frame} {v:Nat→Value} {kk:List Item} {cs:List Frame} {ops:Array Oper} {i n:Nat} {rest:List Nat} {ds:List Deferred}
theorem Dn.valF (Z:Cov K P' P' c g (fun _=>False)) (h:Dn K P' g Fin q0 w0 (G (b.at ⟨fT n v,ds⟩ (.inRegion ops (i :: rest) :: kk)) cs) w) (hb:b.kind≠.early) (o:Oper) (k:Nat) {x:Value} (ho:ops[i]? = some o) (hg:o.guard=none) (hd:o.dst=some k) (hk:k < n)
 (hr:(execOp (Go.Act.eval ⟨fT n v,ds⟩) o).run P' w=.ok (.value x) w1):Dn K P' g Fin q0 w0 (G (b.at ⟨fT n (upd v k x),ds⟩ (.inRegion ops rest :: kk)) cs) w1:=by
 have:=Dn.value Z h ho hg hb hr
 rw [hd,yg hk] at this
 exact this
theorem qae {P:Program} {ev:Operand→Value} {o:Oper} {t:TypeId} {x:Operand} {nx:Next} (hop:o.op=.load t x) (h:(execOp ev o).run P w=.ok nx w1):∃y,(Instr.loadAt t (ev x)).run P w=.ok y w1∧nx=.value y:=by
 unfold execOp at h
 simp only [hop,Sem.run_bind] at h
 cases e:(Instr.loadAt t (ev x)).run P w with
 | halt a b=>rw [e] at h;simp at h
 | ok y w2 =>
   rw [e] at h
   simp only [Result.andThen_ok,Sem.run_pure,Result.ok.injEq] at h
   obtain ⟨h1,h2⟩:=h
   exact ⟨y,by rw [h2],h1.symm⟩
end
end Go.Sim
end
namespace Go.Proofs.Tryz
open Go
def op2 (d:Option Tmp) (o:Op) (t:TypeId:=0):Oper:={ dst:=d,op:=o,type:=t,pos:= "",after:=#[],guard:=none }
def sO:Array Oper:=#[op2 (some 4) (.box 74 (.tmp 0)),op2 (some 5) (.box 75 (.tmp 1)),op2 (some 6) (.box 87 (.tmp 2)),op2 (some 7) (.box 82 (.tmp 3)),
 op2 (some 9) (.makeMap 72 none) 72,op2 (some 10) (.fieldAddr 74 (.tmp 4) 0),op2 (some 11) (.load 28 (.tmp 10)) 28,op2 (some 12) (.load 75 (.tmp 5)) 75,
 op2 (some 13) (.load 87 (.tmp 6)) 87,op2 (some 14) (.load 82 (.tmp 7)) 82,op2 (some 15) (.build 74 #[(0,.tmp 11),(1,.tmp 9)]) 74,
 op2 (some 16) (.call { callee:=.value (.func 85),args:=#[.tmp 15,.tmp 12,.tmp 13,.tmp 14],argTypes:=#[74,75,87,82] }) 3,op2 (some 8) (.assign (.tmp 16)) 3]
def Qb:Code:=.seq (.region 0 sO false) .ret
noncomputable def qeD:Func:={ Tryz.f70 with ntmps:=17,body:=some Qb,tmpNames:=#[] }
noncomputable def qj:Program:={ Tryz.prog with funcs:=Tryz.prog.funcs.setIfInBounds 70 qeD }
end Go.Proofs.Tryz
namespace Go.Sim
open Go
section
variable {Q P:Program} (h:Q.toTables=P.toTables) (t:TypeId) (w:World)
include h
theorem qbo:Q.underlying t=P.underlying t:=by
 obtain ⟨T',f'⟩:=Q;obtain ⟨T,f⟩:=P;simp only at h;subst h;rfl
theorem XZ:Q.info? t=P.info? t:=by
 obtain ⟨T',f'⟩:=Q;obtain ⟨T,f⟩:=P;simp only at h;subst h;rfl
theorem Zn:(Go.underlying t).run Q w=(Go.underlying t).run P w:=by
 unfold Go.underlying
 simp only [Sem.run_bind,run_program,Result.andThen_ok,qbo h]
 cases P.underlying t with
 | none=>rfl
 | some d=>rfl
theorem xM:(Go.typeInfo t).run Q w=(Go.typeInfo t).run P w:=by
 unfold Go.typeInfo
 simp only [Sem.run_bind,run_program,Result.andThen_ok,XZ h]
 cases P.info? t with
 | none=>rfl
 | some d=>rfl
theorem YB:(Go.isAgg t).run Q w=(Go.isAgg t).run P w:=by
 unfold Go.isAgg
 rw [Sem.run_bind,Sem.run_bind,Zn h]
 generalize (Go.underlying t).run P w=r
 cases r with
 | halt x y=>exact Eq.trans (Result.andThen_halt ..) (Result.andThen_halt ..).symm
 | ok d w1 =>
   rw [Result.andThen_ok,Result.andThen_ok]
   split
   ·rw [Sem.run_pure,Sem.run_pure]
   ·rw [Sem.run_pure,Sem.run_pure]
   ·rw [Sem.run_pure,Sem.run_pure]
theorem Yp:(Go.sizeOf t).run Q w=(Go.sizeOf t).run P w:=by
 unfold Go.sizeOf
 rw [Sem.run_bind,Sem.run_bind,xM h]
 generalize (Go.typeInfo t).run P w=r
 cases r with
 | halt x y=>exact Eq.trans (Result.andThen_halt ..) (Result.andThen_halt ..).symm
 | ok d w1=>rw [Result.andThen_ok,Result.andThen_ok,Sem.run_pure,Sem.run_pure]
theorem Qx:(Go.zeroValue t).run Q w=(Go.zeroValue t).run P w:=by
 unfold Go.zeroValue
 rw [Sem.run_bind,Sem.run_bind,xM h]
 generalize (Go.typeInfo t).run P w=r
 cases r with
 | halt x y=>exact Eq.trans (Result.andThen_halt ..) (Result.andThen_halt ..).symm
 | ok d w1 =>
   rw [Result.andThen_ok,Result.andThen_ok]
   split
   ·rw [Sem.run_pure,Sem.run_pure]
   ·rfl
theorem qbH:Q.depth=P.depth:=by
 obtain ⟨T',f'⟩:=Q;obtain ⟨T,f⟩:=P;simp only at h;subst h;rfl
theorem XM:Q.cellsOf t=P.cellsOf t:=by
 obtain ⟨T',f'⟩:=Q;obtain ⟨T,f⟩:=P;simp only at h;subst h;rfl
theorem XU:Q.globals=P.globals:=by
 obtain ⟨T',f'⟩:=Q;obtain ⟨T,f⟩:=P;simp only at h;subst h;rfl
end
theorem enter_of {P:Program} {f:FuncId} {fn:Func} (hf:P.funcs[f]? = some fn) (hname:(fn.name == "runtime.NumGoroutine")=false) (hb:fn.body.isSome=true) (args:Array Value) (w:World) :
 (callFunc f args).run P w=.ok (.enter f args) w:=by
 have h1:fn.name≠ "runtime.NumGoroutine":=by simpa using hname
 obtain ⟨c,hc⟩:=Option.isSome_iff_exists.1 hb
 simp [callFunc,hf,h1,hc]
end Go.Sim
section
namespace Go.Sim
open Go Go.Instr Go.Conc
open Go.ConcN (sumTo upd sumTo_upd upd_ne upd_same)
section
variable {P:Program} {S Bx:Nat→Prop} {ch:Nat} {z:Value} {ok:Bool} {Q:Goroutine→World→Prop}
theorem Jb {gs:Array Goroutine} {a:Goroutine} {w':World} {t:Trace} {qq:Nat→Nat} (h0:gs[0]? = some a) (hrun:a.status=.running) (hL:Leavers P t gs qq) (hP:Past (zA S) w'.heap.size t) (hN:∀(i:Nat) (op:MemOp),t[i]? = some op→op.g < gs.size)
 {i d:Nat} {x:Goroutine} {sl':Option (Nat×Nat)} (hi:gs[i]? = some x) (hx:x.status=.running) (hpos:0 < i) :
 ∃gs2 t2 qq2,runT P (crowd gs (w'.at d) sl') i=(.next (crowd gs2 (w'.at d) sl'),t2)∧gs2.size=gs.size∧sumTo gs2.size qq2 < sumTo gs.size qq∧gs2[0]? = some a∧Leavers P (t ++ t2) gs2 qq2∧Past (zA S) w'.heap.size (t ++ t2)∧∀(i:Nat) (op:MemOp),(t ++ t2)[i]? = some op→op.g < gs2.size:=by
 have hq1:=hL.old i x hpos hi
 have hi0:(i == 0)=false:=by simp;omega
 have hlt:i < gs.size:=(Array.getElem?_eq_some_iff.1 hi).1
 cases hqi:qq i with
 | zero=>rw [hqi] at hq1;rw [hq1.1] at hx;cases hx
 | succ k =>
   rw [hqi] at hq1
   rcases hq1 with ⟨hf,_⟩ | ⟨_,g',es,hm,hstp,hq'⟩
   ·rw [hf] at hx;cases hx
   have hrunT:=runT_crowd_go (P:=P) (sl:=sl') (i:=i) hi (by rw [hi0];exact hstp (w'.at d))
   have hsum:sumTo gs.size (upd qq i k)+(k+1)=sumTo gs.size qq+k:=by
    have:=sumTo_upd qq k id hlt
    simpa [hqi] using this
   refine ⟨_,_,upd qq i k,hrunT,by simp,by simp;omega,?_,⟨fun j y hj hy=>?_,fun j hj=>?_⟩,hP.mute (by omega) hm,qV hN (by simp) fun op hop=>by obtain ⟨e,_,rfl⟩:=Go.Conc.mem_ofEvents hop;simpa using hlt⟩
   ·have hne:i≠0:=by omega
    rw [Array.getElem?_setIfInBounds_ne hne,Array.getElem?_map,h0]
    simp [woken_run hrun]
   ·by_cases hji:i=j
    ·subst hji
     rw [Array.getElem?_setIfInBounds_self_of_lt (by simpa using hlt)] at hy
     obtain rfl:=Option.some.inj hy
     rw [upd_same,Deaf_own]
     exact hq'
    ·rw [Array.getElem?_setIfInBounds_ne hji,Array.getElem?_map] at hy
     obtain ⟨z,hz,rfl⟩:=Option.map_eq_some_iff.1 hy
     have hqj:=hL.old j z hj hz
     rw [woken_quitsD hqj,upd_ne qq k (Ne.symm hji),Deaf_other t hji _ (fun op hop=>by obtain ⟨e,_,rfl⟩:=Go.Conc.mem_ofEvents hop;rfl)]
     exact hqj
   ·rw [Deaf_other t (g':=i) (by simp at hj;omega) _ (fun op hop=>by obtain ⟨e,_,rfl⟩:=Go.Conc.mem_ofEvents hop;rfl)]
    exact hL.above j (by simpa using hj)
theorem RM.fork {m:Nat} {gs:Array Goroutine} {a a' child:Goroutine} {w':World} {sl:Option (Nat×Nat)} {t:Trace} (hR:RM P S gs a w' t) (hrun:a.status=.running) (hc:child.status=.running) (hsp:∀d,stepG P true a (w'.at d)=.spawn a' child (w'.at d) #[])
 (hbx:∀b,Bx b→b < w'.heap.size∧¬ S b) (hch:Bx ch∧∃s tm,w'.heap[ch]? = some (.chan 0 #[] false s s tm)) (hst:Stand P Bx ch z ok Q m a' w') :
 ∃(N:Nat) (gs1:Array Goroutine) (d:Nat) (sl1:Option (Nat×Nat)) (t1:Trace) (j:Nat) (qq:Nat→Nat),runNT P N (crowd gs w' sl) t=(.next (crowd gs1 (w'.at d) sl1),t1)∧RMJ P S Bx ch z ok Q j gs1 child (w'.at d) t1 m qq:=by
 obtain ⟨h0,⟨qq,hL⟩,hP,hN⟩:=hR
 have key:∀(M:Nat) (gs:Array Goroutine) (d0:Nat) (sl:Option (Nat×Nat)) (t:Trace) (qq:Nat→Nat),sumTo gs.size qq≤M→gs[0]? = some a→Leavers P t gs qq→Past (zA S) w'.heap.size t→(∀(i:Nat) (op:MemOp),t[i]? = some op→op.g < gs.size) →
  ∃(N:Nat) (gs1:Array Goroutine) (d:Nat) (sl1:Option (Nat×Nat)) (t1:Trace) (j:Nat) (qq:Nat→Nat),runNT P N (crowd gs (w'.at d0) sl) t=(.next (crowd gs1 (w'.at d) sl1),t1)∧RMJ P S Bx ch z ok Q j gs1 child (w'.at d) t1 m qq:=by
  intro M
  induction M using Nat.strongRecOn with
  | _ M ih =>
  intro gs d0 sl t qq hq h0 hL hP hN
  have haw:∀x∈gs,awake x:=by
   intro x hx
   obtain ⟨i,hi,rfl⟩:=Array.mem_iff_getElem.1 hx
   rcases Nat.eq_zero_or_pos i with rfl | hpos
   ·have:gs[0]=a:=by simpa [Array.getElem?_eq_getElem hi] using h0
    rw [this];exact awake_of (.inl hrun)
   ·exact awake_of ((hL.old i _ hpos (Array.getElem?_eq_getElem hi)).status.elim .inl fun x=>.inr (.inr x))
  obtain ⟨i,x,d,sl',hi,hx,hstp⟩:=crowd_pick (P:=P) (w:=w'.at d0) (sl:=sl) haw ⟨0,a,h0,hrun⟩
  have hd:(w'.at d0).at d=w'.at d:=rfl
  rw [hd] at hstp
  rcases Nat.eq_zero_or_pos i with rfl | hpos
  ·obtain rfl:x=a:=by rw [h0] at hi;exact (Option.some.inj hi).symm
   have hrunT:=runT_crowd_spawn (P:=P) (sl:=sl') (i:=0) h0 (by simpa using hsp d)
   have hlt:0 < gs.size:=(Array.getElem?_eq_some_iff.1 h0).1
   have hnil:MemOp.ofEvents 0 x.frame.fn x.frame.place #[]=#[]:=by rw [ofEvents_eq];simp
   rw [hnil] at hrunT
   let y0:MemOp:={ g:=0,fn:=x.frame.fn,pos:=x.frame.place,act:=.go gs.size }
   let y1:MemOp:={ g:=gs.size,fn:=child.frame.fn,pos:=x.frame.place,act:=.start }
   have hrunT:runT P (crowd gs (w'.at d) sl') 0=(.next (crowd ((gs.setIfInBounds 0 a').push child) (w'.at d) sl'),#[y0,y1]):=hrunT
   refine ⟨1,(gs.setIfInBounds 0 a').push child,d,sl',t ++ #[y0,y1],gs.size,qq,by simp only [runNT,hstp,hrunT],?_⟩
   have hmute:∀op∈#[y0,y1],op.act≠.mark .disable∧op.act≠.mark .enable:=fun op hop=>by
    simp only [List.mem_toArray,List.mem_cons,List.not_mem_nil,or_false] at hop
    rcases hop with rfl | rfl <;> simp [y0,y1]
   have hold:∀{k:Nat} {y:Goroutine},((gs.setIfInBounds 0 a').push child)[k]? = some y→k≠gs.size→k≠0→gs[k]? = some y:=fun {k y} hy hk hk0=>by
    rw [Array.getElem?_push] at hy
    rw [if_neg (by simpa using hk),Array.getElem?_setIfInBounds_ne (Ne.symm hk0)] at hy
    exact hy
   refine ⟨?_,hlt,⟨a',?_,hst.keep fun _ _=>rfl⟩,fun k y hk hkj hy=>?_,fun k hk=>?_,?_,fun k op hop=>?_,fun b hb=>(hbx b hb).1,hch⟩
   ·rw [Array.getElem?_push,if_pos (by simp)]
   ·rw [Array.getElem?_push,if_neg (by simp;omega),Array.getElem?_setIfInBounds_self_of_lt hlt]
   ·have:=hL.old k y hk (hold hy hkj (by omega))
    rw [Go.ConcN.Deaf_still t k _ hmute]
    exact this
   ·rw [Go.ConcN.Deaf_still t k _ hmute]
    exact hL.above k (by simp at hk;omega)
   ·exact PastJ.fork hP hlt (fun l hl=>by
     cases l with
     | cell ad=>exact ⟨rfl,(hbx _ hl).2⟩
     | obj r=>exact ⟨rfl,(hbx _ hl).2⟩
     | _=>exact hl.elim) hN ⟨rfl,rfl⟩ ⟨rfl,rfl⟩
   ·rw [Array.size_push,Array.size_setIfInBounds]
    rcases getElem?_append_cases hop with ⟨_,h1⟩ | ⟨_,h1⟩
    ·exact Nat.lt_succ_of_lt (hN k op h1)
    ·simp only [List.mem_toArray,List.mem_cons,List.not_mem_nil,or_false] at h1
     rcases h1 with rfl | rfl
     ·exact Nat.succ_pos _
     ·exact Nat.lt_succ_self _
  ·obtain ⟨gs2,t2,qq2,h1,h2,h3,h4,h5,h6,h7⟩:=Jb (sl':=sl') (d:=d) h0 hrun hL hP hN hi hx hpos
   obtain ⟨N,gs1,d1,sl1,t1,j,qq1,r1,r2⟩:=ih _ (by omega) gs2 d sl' (t ++ t2) qq2 (Nat.le_refl _) h4 h5 h6 h7
   exact ⟨N+1,gs1,d1,sl1,t1,j,qq1,by simp only [runNT,hstp,h1];exact r1,r2⟩
 exact key _ gs w'.drawn sl t qq (Nat.le_refl _) h0 hL hP hN
end
end Go.Sim
end
section
namespace Go.Sim
open Go Go.Instr Go.Conc
open Go.ConcN (sumTo upd sumTo_upd upd_ne upd_same)
section
variable {P:Program} {S Bx:Nat→Prop} {ch:Nat} {z:Value} {ok:Bool} {Q:Goroutine→World→Prop} {j:Nat}
theorem RMJ.slip2 {gs:Array Goroutine} {a:Goroutine} {w':World} {t:Trace} {m:Nat} {qq:Nat→Nat} (hR:RMJ P S Bx ch z ok Q j gs a w' t m qq) (hwk:∀(x x':Goroutine) (w1:World) (s:Nat) (tm:Bool),w1.heap[ch]? = some (.chan 0 #[] false s s tm)→woken P x x' w1 a=a) {i d:Nat} {x:Goroutine} {sl':Option (Nat×Nat)} (hi:gs[i]? = some x) (hx:x.status=.running) (ej:i≠j) :
 (i=0∧∀w1,zL Bx w' w1→Q x w1∧stepG P true x w1=.comm (core x) #[rcase ch z] true (.recv ok) w1 #[])∨∃gs2 t2 d2 m2 qq2,runT P (crowd gs (w'.at d) sl') i=(.next (crowd gs2 (w'.at d2) sl'),t2)∧m2+sumTo gs2.size qq2 < m+sumTo gs.size qq∧(1≤m→1≤m2)∧RMJ P S Bx ch z ok Q j gs2 a (w'.at d2) (t ++ t2) m2 qq2:=by
 have hltj:j < gs.size:=(Array.getElem?_eq_some_iff.1 hR.here).1
 have hlt0:0 < gs.size:=by omega
 obtain ⟨hbch,cs,ctm,hch⟩:=hR.chan
 obtain ⟨a0,h0,hS0⟩:=hR.zero
 have hj0:j≠0:=by have:=hR.jpos;omega
 have hlt:i < gs.size:=(Array.getElem?_eq_some_iff.1 hi).1
 by_cases e0:i=0
 ·subst e0
  obtain rfl:x=a0:=by rw [h0] at hi;exact (Option.some.inj hi).symm
  have hkd:zL Bx w' (w'.at d):=fun _ _=>rfl
  cases hS0 with
  | parked hq=>cases hx
  | ready hr hq=>exact .inl ⟨rfl,hq⟩
  | @step n' _ _ f dd ee hr hs hn =>
    obtain ⟨hgo,hev⟩:=hs (w'.at d) hkd
    have hst':=hn (w'.at d) hkd
    generalize f (w'.at d)=a' at *
    generalize dd (w'.at d)=d' at *
    generalize ee (w'.at d)=es at *
    have hrunT:=runT_crowd_go (P:=P) (sl:=sl') (i:=0) hi (show stepG P (0 == 0) x (w'.at d)=_ from hgo)
    have hown:∀op∈MemOp.ofEvents 0 x.frame.fn x.frame.place es,op.g=0:=fun op hop=>by obtain ⟨_,_,rfl⟩:=Go.Conc.mem_ofEvents hop;rfl
    refine .inr ⟨_,_,d',n'+1,qq,hrunT,by simp,fun _=>Nat.succ_pos _,?_⟩
    refine ⟨?_,hR.jpos,⟨a',Array.getElem?_setIfInBounds_self_of_lt (by simpa using hlt),hst'.keep fun _ _=>rfl⟩,fun k y hk hkj hy=>?_,fun k hk=>?_,?_,qV hR.nums (by simp) (fun op hop=>by rw [hown op hop];simpa using hlt),hR.bx,hR.chan⟩
    ·rw [Array.getElem?_setIfInBounds_ne (Ne.symm hj0),Array.getElem?_map,hR.here,Option.map_some];exact congrArg some (hwk _ _ _ cs ctm hch)
    ·rw [Array.getElem?_setIfInBounds_ne (by omega),Array.getElem?_map] at hy
     obtain ⟨v,hv,rfl⟩:=Option.map_eq_some_iff.1 hy
     have hq:=hR.old k v hk hkj hv
     rw [woken_quitsD hq,Deaf_other t (by omega) _ hown]
     exact hq
    ·rw [Deaf_other t (g':=0) (by simp at hk;omega) _ hown]
     exact hR.above k (by simpa using hk)
    ·refine hR.past.zero hj0 hown (fun op hop b hb=>?_) ?_ (fun op hop=>?_)
     ·obtain ⟨ev,hev',rfl⟩:=Go.Conc.mem_ofEvents hop
      exact (hev ev hev').1 b hb
     ·rw [Deaf_own,deafBehind_still fun ev hev'=>⟨(hev ev hev').2.1,(hev ev hev').2.2.1⟩]
      exact hR.past.hears
     ·obtain ⟨ev,hev',rfl⟩:=Go.Conc.mem_ofEvents hop
      exact (hev ev hev').2.2.2 _ hR.bx
 ·
  have hq1:=hR.old i x (by omega) ej hi
  have hi0:(i == 0)=false:=by simp;omega
  cases hqi:qq i with
  | zero=>rw [hqi] at hq1;rw [hq1.1] at hx;cases hx
  | succ k =>
    rw [hqi] at hq1
    rcases hq1 with ⟨hf,_⟩ | ⟨_,g',es,hm,hstp,hq'⟩
    ·rw [hf] at hx;cases hx
    have hrunT:=runT_crowd_go (P:=P) (sl:=sl') (i:=i) hi (by rw [hi0];exact hstp (w'.at d))
    have hsum:sumTo gs.size (upd qq i k)+(k+1)=sumTo gs.size qq+k:=by
     have:=sumTo_upd qq k id hlt
     simpa [hqi] using this
    have hown:∀op∈MemOp.ofEvents i x.frame.fn x.frame.place es,op.g=i:=fun op hop=>by obtain ⟨_,_,rfl⟩:=Go.Conc.mem_ofEvents hop;rfl
    refine .inr ⟨_,_,d,m,upd qq i k,hrunT,by simp;omega,id,?_⟩
    refine ⟨?_,hR.jpos,⟨a0,?_,hS0.keep fun _ _=>rfl⟩,fun k' y hk hkj hy=>?_,fun k' hk=>?_,?_,qV hR.nums (by simp) (fun op hop=>by rw [hown op hop];simpa using hlt),hR.bx,hR.chan⟩
    ·rw [Array.getElem?_setIfInBounds_ne ej,Array.getElem?_map,hR.here,Option.map_some];exact congrArg some (hwk _ _ _ cs ctm hch)
    ·rw [Array.getElem?_setIfInBounds_ne e0,Array.getElem?_map,h0,Option.map_some,hS0.woken (show (w'.at d).heap[ch]? = _ from hch)]
    ·by_cases hji:i=k'
     ·subst hji
      rw [Array.getElem?_setIfInBounds_self_of_lt (by simpa using hlt)] at hy
      obtain rfl:=Option.some.inj hy
      rw [upd_same,Deaf_own]
      exact hq'
     ·rw [Array.getElem?_setIfInBounds_ne hji,Array.getElem?_map] at hy
      obtain ⟨v,hv,rfl⟩:=Option.map_eq_some_iff.1 hy
      have hqj:=hR.old k' v hk hkj hv
      rw [woken_quitsD hqj,upd_ne qq k (Ne.symm hji),Deaf_other t hji _ hown]
      exact hqj
    ·rw [Deaf_other t (g':=i) (by simp at hk;omega) _ hown]
     exact hR.above k' (by simpa using hk)
    ·refine hR.past.quiet hown (fun op hop=>?_) ?_ ?_ (fun op hop=>?_)
     ·obtain ⟨ev,hev,rfl⟩:=Go.Conc.mem_ofEvents hop
      exact touch_mute (hm ev hev)
     ·rw [Deaf_other t e0 _ hown]
      exact hR.past.hears
     ·rw [Deaf_other t ej _ hown]
      exact hR.past.hears'
     ·obtain ⟨ev,hev,rfl⟩:=Go.Conc.mem_ofEvents hop
      exact low_mute (hm ev hev) _
structure RMM (P:Program) (S:Nat→Prop) (ch:Nat) (j:Nat) (gs:Array Goroutine) (a0 ak:Goroutine) (w':World) (t:Trace) (qq:Nat→Nat):Prop where
 zero:gs[0]? = some a0
 here:gs[j]? = some ak
 jpos:0 < j
 old:∀i g,0 < i→i≠j→gs[i]? = some g→QuitsD P (qq i) (Deaf t i) g
 above:∀i,gs.size≤i→Deaf t i=0
 past:Past (zA S) w'.heap.size t
 hears:Deaf t j=0
 chk:∀i a,touchAt t i=some a→a.loc=.obj ch→a.write=true→Knows t j i∨a.kind=.atomic
 nums:∀(i:Nat) (op:MemOp),t[i]? = some op→op.g < gs.size
 chan:ch < w'.heap.size∧∃s tm,w'.heap[ch]? = some (.chan 0 #[] false s s tm)
theorem Xj {t u:Trace} (hu:∀op∈u,op.act≠.mark .disable∧op.act≠.mark .enable) (k:Nat):∀r,(t ++ u).deaf k (t.size+r)=Deaf t k
 | 0=>deaf_old (Nat.le_refl _)
 | r+1=>by
   have ih:(t ++ u).deaf k (t.size+r)=Deaf t k:=Xj (t:=t) hu k r
   have hm:∀op,(t ++ u)[t.size+r]? = some op→op.act≠.mark .disable∧op.act≠.mark .enable:=fun op h=>by
    rw [Array.getElem?_append_right (by omega)] at h
    exact hu op (Array.mem_of_getElem? h)
   show Trace.deaf (t ++ u) k (t.size+r+1)=_
   unfold Trace.deaf
   split
   ·rename_i h
    exact absurd rfl (hm _ h).1
   ·rename_i h
    exact absurd rfl (hm _ h).2
   ·exact ih
theorem RMJ.four {gs gs1:Array Goroutine} {a a0 a1:Goroutine} {w':World} {t:Trace} {m:Nat} {qq:Nat→Nat} (hR:RMJ P S Bx ch z ok Q j gs a w' t m qq) {d s:Nat} {tm:Bool} {fn fn':FuncId} {ps ps':String} {ops:Array MemOp}
 (he:ops=#[{ g:=j,fn:=fn,pos:=ps,act:=.send ch s },{ g:=0,fn:=fn',pos:=ps',act:=.recv ch s 0 },{ g:=j,fn:=fn,pos:=ps,act:=.sendDone ch s },{ g:=0,fn:=fn',pos:=ps',act:=.recvDone ch s }])
 (hgs:gs1=(gs.setIfInBounds j a1).setIfInBounds 0 a0∨gs1=(gs.setIfInBounds 0 a0).setIfInBounds j a1) :
 RMM P S ch j gs1 a0 a1 ((w'.at d).setChan ch 0 #[] false (s+1) (s+1) tm) (t ++ ops) qq:=by
 have hltj:j < gs.size:=(Array.getElem?_eq_some_iff.1 hR.here).1
 have hj:=hR.jpos
 have hlt0:0 < gs.size:=by omega
 have hb:=hR.bx ch hR.chan.1
 have hsz:((w'.at d).setChan ch 0 #[] false (s+1) (s+1) tm).heap.size=w'.heap.size:=by
  show (w'.heap.setIfInBounds ch _).size=_
  simp
 have hops:∀op∈ops,(op.g=0∨op.g=j)∧op.act.touch? = none∧op.act.low w'.heap.size∧op.act≠.mark .disable∧op.act≠.mark .enable:=fun op hop=>by
  rw [he] at hop
  simp only [List.mem_toArray,List.mem_cons,List.not_mem_nil,or_false] at hop
  rcases hop with rfl | rfl | rfl | rfl
  ·exact ⟨.inr rfl,rfl,hb,by simp,by simp⟩
  ·exact ⟨.inl rfl,rfl,hb,by simp,by simp⟩
  ·exact ⟨.inr rfl,rfl,hb,by simp,by simp⟩
  ·exact ⟨.inl rfl,rfl,hb,by simp,by simp⟩
 have hsize:gs1.size=gs.size:=by rcases hgs with rfl | rfl <;> simp
 have hdeaf:∀k,Deaf (t ++ ops) k=Deaf t k:=fun k=>Go.ConcN.Deaf_still t k _ fun op hop=>(hops op hop).2.2.2
 have hlen:(t ++ ops).size=t.size+4:=by rw [Array.size_append,he];rfl
 have hget:∀k,(t ++ ops)[t.size+k]? = ops[k]? := fun k=>by rw [Array.getElem?_append_right (by omega)];congr 1;omega
 have hp:(t ++ ops)[t.size+0]? = some { g:=j,fn:=fn,pos:=ps,act:=.send ch s }:=by rw [hget,he];rfl
 have hq:(t ++ ops)[t.size+3]? = some { g:=0,fn:=fn',pos:=ps',act:=.recvDone ch s }:=by rw [hget,he];rfl
 have hpart:∀r k,(t ++ ops).deaf k (t.size+r)=Deaf t k:=fun r k=>Xj (fun op hop=>(hops op hop).2.2.2) k r
 have hpq:HappensBefore (t ++ ops) (t.size+0) (t.size+3):=.single (.inr ⟨.handOver (c:=ch) (k:=s) (by rw [act?_of hp]) (by rw [act?_of hq]),⟨j,by rw [gof hp],by rw [hpart];exact hR.past.hears'⟩,⟨0,by rw [gof hq],by rw [hpart];exact hR.past.hears⟩⟩)
 refine ⟨?_,?_,hj,fun i y hi hij hy=>?_,fun i hi=>?_,?_,(hdeaf j).trans hR.past.hears',fun i a ha hl hw=>?_,fun i op hop=>?_,by rw [hsz];exact hb,s+1,tm,?_⟩
 ·rcases hgs with rfl | rfl
  ·rw [Array.getElem?_setIfInBounds_self_of_lt (by simpa using hlt0)]
  ·rw [Array.getElem?_setIfInBounds_ne (by omega),Array.getElem?_setIfInBounds_self_of_lt hlt0]
 ·rcases hgs with rfl | rfl
  ·rw [Array.getElem?_setIfInBounds_ne (by omega),Array.getElem?_setIfInBounds_self_of_lt hltj]
  ·rw [Array.getElem?_setIfInBounds_self_of_lt (by simpa using hltj)]
 ·rw [hdeaf]
  refine hR.old i y hi hij ?_
  rcases hgs with rfl | rfl
  ·rwa [Array.getElem?_setIfInBounds_ne (by omega),Array.getElem?_setIfInBounds_ne (Ne.symm hij)] at hy
  ·rwa [Array.getElem?_setIfInBounds_ne (Ne.symm hij),Array.getElem?_setIfInBounds_ne (by omega)] at hy
 ·rw [hdeaf];exact hR.above i (hsize▸hi)
 ·rw [hsz]
  exact hR.past.back (fun op hop=>(hops op hop).2.1) (fun op hop=>(hops op hop).2.2.2) (fun op hop=>(hops op hop).2.2.1) (Nat.le_refl _) (gof hp) (gof hq) hpq
 ·rcases zt ha with ⟨_,h1⟩ | ⟨op,h1,_,h3⟩
  ·rcases hR.past.known i a h1 (by rw [hl];rfl) with h2 | ⟨_,h2⟩ | ⟨_,h2,_⟩
   ·exact .inl (h2.app _)
   ·exact .inr h2
   ·rw [h2] at hw;cases hw
  ·rw [(hops op h1).2.1] at h3;cases h3
 ·rw [hsize]
  rcases getElem?_append_cases hop with ⟨_,h1⟩ | ⟨_,h1⟩
  ·exact hR.nums i op h1
  ·rcases (hops op h1).1 with e | e <;> omega
 ·show (w'.heap.setIfInBounds ch _)[ch]? = _
  simp [hb]
theorem Jk {x y:Goroutine} {cs cs':Array CommCase} {sh sh':CommShape} (h:parked x cs sh=parked y cs' sh'):cs=cs'∧sh=sh'∧∀v,Conc.served x v=Conc.served y v:=by
 unfold parked at h
 simp only [Goroutine.mk.injEq,Option.some.injEq,Prod.mk.injEq,true_and] at h
 obtain ⟨h1,h2,h3,h4,h5⟩:=h
 exact ⟨h4,h5,fun v=>by simp [Conc.served,h1,h2,h3]⟩
theorem Stand.up {m:Nat} {a:Goroutine} {w:World} (h:Stand P Bx ch z ok Q m a w):(m=0∧∃g0,a=Conc.parked (core g0) #[rcase ch z] (.recv ok)∧∀w1,zL Bx w w1→Q g0 w1)∨(1≤m∧a.status=.running):=by
 cases h with
 | parked hq=>exact .inl ⟨rfl,_,rfl,hq⟩
 | ready hr _=>exact .inr ⟨Nat.le_refl _,hr⟩
 | step _ _ _ hr _ _=>exact .inr ⟨Nat.succ_pos _,hr⟩
theorem Jg (g:Nat) (fn:FuncId) (pos:String):MemOp.ofEvents g fn pos #[]=#[]:=by rw [ofEvents_eq];simp
theorem RMJ.meet2 {a:Goroutine} {v z':Value}:∀(M:Nat) (gs:Array Goroutine) (w':World) (sl:Option (Nat×Nat)) (t:Trace) (m:Nat) (qq:Nat→Nat),m+sumTo gs.size qq≤M→1≤m→RMJ P S Bx ch z ok Q j gs (parked (core a) #[scase ch v z'] .send) w' t m qq →
 ∃(N:Nat) (gs1:Array Goroutine) (sl1:Option (Nat×Nat)) (t1:Trace) (g0:Goroutine) (d s:Nat) (tm:Bool) (qq1:Nat→Nat),runNT P N (crowd gs w' sl) t=(.next (crowd gs1 ((w'.at d).setChan ch 0 #[] false (s+1) (s+1) tm) sl1),t1)∧(∀w1,zL Bx w' w1→Q g0 w1)∧w'.heap[ch]? = some (.chan 0 #[] false s s tm) ∧
  RMM P S ch j gs1 (Conc.served (core g0) (recvd ok v true)) (Conc.served (core a) undef) ((w'.at d).setChan ch 0 #[] false (s+1) (s+1) tm) t1 qq1:=by
 intro M
 induction M using Nat.strongRecOn with
 | _ M ih =>
 intro gs w' sl t m qq hM hm hR
 obtain ⟨hbch,s,tm,hch⟩:=hR.chan
 obtain ⟨a0,h0,hS⟩:=hR.zero
 have hj0:j≠0:=by have:=hR.jpos;omega
 have hr0:a0.status=.running:=by
  rcases hS.up with ⟨e,_⟩ | ⟨_,e⟩
  ·omega
  ·exact e
 have haw:∀x∈gs,Conc.awake x:=by
  intro x hx
  obtain ⟨i,hi,rfl⟩:=Array.mem_iff_getElem.1 hx
  by_cases e0:i=0
  ·subst e0
   have:gs[0]=a0:=by simpa [Array.getElem?_eq_getElem hi] using h0
   rw [this];exact awake_of (.inl hr0)
  ·by_cases ej:i=j
   ·subst ej
    have:gs[i]=parked (core a) #[scase ch v z'] .send:=by simpa [Array.getElem?_eq_getElem hi] using hR.here
    rw [this];intro t h;cases h
   ·exact awake_of ((hR.old i _ (by omega) ej (Array.getElem?_eq_getElem hi)).status.elim .inl fun x=>.inr (.inr x))
 obtain ⟨i,x,d,sl',hi,hx,hst⟩:=crowd_pick (P:=P) (w:=w') (sl:=sl) haw ⟨0,a0,h0,hr0⟩
 have ej:i≠j:=fun e=>by
  subst e
  rw [hR.here] at hi
  obtain rfl:=Option.some.inj hi
  cases hx
 rcases hR.slip2 (d:=d) (sl':=sl') (fun _ _ _ _ _ h=>woken_send_open _ _ h) hi hx ej with ⟨rfl,hq⟩ | ⟨gs2,t2,d2,m2,qq2,h1,h2,h3,h4⟩
 ·have hQ:∀w1,zL Bx w' w1→Q x w1:=fun w1 h=>(hq w1 h).1
  obtain ⟨_,hcomm⟩:=hq (w'.at d) (fun _ _=>rfl)
  have hpar:∀k n,(k,n)∈partners (gs.setIfInBounds 0 ph) ch true→k=j∧n=0:=fun k n hm=>by
   obtain ⟨y,hy,ho⟩:=mem_partners.1 hm
   rcases getElem?_stand gs 0 k y hy with ⟨_,rfl⟩ | ⟨hk,hy⟩
   ·rw [offersAt_ph] at ho;cases ho
   ·by_cases ek:k=j
    ·subst ek
     rw [hR.here] at hy
     obtain rfl:=Option.some.inj hy
     rw [offersAt_parked_send] at ho
     simp at ho
     exact ⟨rfl,ho⟩
    ·have:y.status≠.blocked:=by rcases (hR.old k y (by omega) ek hy).status with e | e <;> rw [e] <;> simp
     rw [offersAt_of_not_blocked this] at ho;cases ho
  have hne:partners (gs.setIfInBounds 0 ph) ch true≠[]:=fun e=>by
   have:(j,0)∈partners (gs.setIfInBounds 0 ph) ch true:=mem_partners.2 ⟨_,by rw [Array.getElem?_setIfInBounds_ne (Ne.symm hj0)];exact hR.here,by rw [offersAt_parked_send];simp⟩
   rw [e] at this;cases this
  obtain ⟨k,gk,vk,zk,shk,d',hk0,hk,hr⟩:=crowd_recv_meets_some (sl:=sl') hi (show stepG P (0 == 0) x (w'.at d)=_ from hcomm) (show (w'.at d).heap[ch]? = _ from hch) hne (fun k n hm=>by
   obtain ⟨rfl,rfl⟩:=hpar k n hm
   exact ⟨rfl,hj0,_,_,_,_,hR.here⟩)
  have hkj:k=j:=(hpar k 0 (mem_partners.2 ⟨_,by rw [Array.getElem?_setIfInBounds_ne (Ne.symm hk0)];exact hk,by rw [offersAt_parked_send];simp⟩)).1
  subst hkj
  rw [hR.here] at hk
  obtain ⟨e1,e2,e3⟩:=Jk (Option.some.inj hk)
  subst e2
  have ev:vk=v:=by
   have:=congrArg (fun x:Array CommCase=>(x[0]?).bind (·.send)) e1
   simpa [scase] using this.symm
  subst ev
  rw [finishComm_recv,finishComm_send,Jg,Array.empty_append,← e3] at hr
  refine ⟨1,_,sl',_,x,d',s,tm,qq,by simp only [runNT,hst,hr];rfl,hQ,hch,hR.four (d:=d') (s:=s) (tm:=tm) rfl (.inl rfl)⟩
 ·obtain ⟨N,gs1,sl1,t1,g0,d1,s1,tm1,qq1,r1,r2,r3,r4⟩:=ih _ (by omega) gs2 (w'.at d2) sl' _ m2 qq2 (Nat.le_refl _) (h3 hm) h4
  exact ⟨N+1,gs1,sl1,t1,g0,d1,s1,tm1,qq1,by simp only [runNT,hst,h1];exact r1,r2,r3,r4⟩
theorem RMJ.meet {a:Goroutine} {v z':Value} (hrun:a.status=.running):∀(M:Nat) (gs:Array Goroutine) (w':World) (sl:Option (Nat×Nat)) (t:Trace) (m:Nat) (qq:Nat→Nat),m+sumTo gs.size qq≤M→(∀d,stepG P false a (w'.at d)=.comm (core a) #[scase ch v z'] true .send (w'.at d) #[])→RMJ P S Bx ch z ok Q j gs a w' t m qq →
 ∃(N:Nat) (gs1:Array Goroutine) (sl1:Option (Nat×Nat)) (t1:Trace) (g0:Goroutine) (d s:Nat) (tm:Bool) (qq1:Nat→Nat),runNT P N (crowd gs w' sl) t=(.next (crowd gs1 ((w'.at d).setChan ch 0 #[] false (s+1) (s+1) tm) sl1),t1)∧(∀w1,zL Bx w' w1→Q g0 w1)∧w'.heap[ch]? = some (.chan 0 #[] false s s tm) ∧
  RMM P S ch j gs1 (Conc.served (core g0) (recvd ok v true)) (Conc.served (core a) undef) ((w'.at d).setChan ch 0 #[] false (s+1) (s+1) tm) t1 qq1:=by
 intro M
 induction M using Nat.strongRecOn with
 | _ M ih =>
 intro gs w' sl t m qq hM hsend hR
 obtain ⟨i,x,d,sl',hi,hx,hst⟩:=crowd_pick (P:=P) (w:=w') (sl:=sl) (hR.awake hrun) ⟨j,a,hR.here,hrun⟩
 have hj0:j≠0:=by have:=hR.jpos;omega
 by_cases ej:i=j
 ·subst ej
  obtain rfl:x=a:=by rw [hR.here] at hi;exact (Option.some.inj hi).symm
  obtain ⟨hbch,s,tm,hch⟩:=hR.chan
  obtain ⟨a0,h0,hS⟩:=hR.zero
  have hlti:i < gs.size:=(Array.getElem?_eq_some_iff.1 hi).1
  have hi0:(i == 0)=false:=by simp;omega
  have hcomm:stepG P (i == 0) x (w'.at d)=.comm (core x) #[scase ch v z'] true .send (w'.at d) #[]:=by rw [hi0];exact hsend d
  have hpar:∀k n,(k,n)∈partners (gs.setIfInBounds i ph) ch false→k=0∧n=0∧∃g0,a0=parked (core g0) #[rcase ch z] (.recv ok)∧∀w1,zL Bx w' w1→Q g0 w1:=fun k n hm=>by
   obtain ⟨y,hy,ho⟩:=mem_partners.1 hm
   rcases getElem?_stand gs i k y hy with ⟨_,rfl⟩ | ⟨hk,hy⟩
   ·rw [offersAt_ph] at ho;cases ho
   ·by_cases ek:k=0
    ·subst ek
     rw [h0] at hy
     obtain rfl:=Option.some.inj hy
     rcases hS.up with ⟨_,g0,rfl,hq⟩ | ⟨_,e⟩
     ·rw [offersAt_parked_recv] at ho
      simp at ho
      exact ⟨rfl,ho,g0,rfl,hq⟩
     ·rw [offersAt_of_not_blocked (by rw [e];simp)] at ho;cases ho
    ·have:y.status≠.blocked:=by rcases (hR.old k y (by omega) hk hy).status with e | e <;> rw [e] <;> simp
     rw [offersAt_of_not_blocked this] at ho;cases ho
  by_cases hp:partners (gs.setIfInBounds i ph) ch false=[]
  ·
   have hr:=crowd_waits (sl:=sl') hi hcomm (fun cc hcc=>by
    simp at hcc;subst hcc
    exact ways_send_none (show (w'.at d).heap[ch]? = _ from hch) (by simp) hp)
   rw [Jg] at hr
   have hm:1≤m:=by
    rcases hS.up with ⟨_,g0,rfl,_⟩ | ⟨e,_⟩
    ·have:(0,0)∈partners (gs.setIfInBounds i ph) ch false:=mem_partners.2 ⟨_,by rw [Array.getElem?_setIfInBounds_ne hj0];exact h0,by rw [offersAt_parked_recv];simp⟩
     rw [hp] at this;cases this
    ·exact e
   have hR2:RMJ P S Bx ch z ok Q i (gs.setIfInBounds i (parked (core x) #[scase ch v z'] .send)) (parked (core x) #[scase ch v z'] .send) (w'.at d) t m qq :=
    ⟨Array.getElem?_setIfInBounds_self_of_lt hlti,hR.jpos,⟨a0,by rw [Array.getElem?_setIfInBounds_ne hj0];exact h0,hS.keep fun _ _=>rfl⟩,fun k y hk hkj hy=>hR.old k y hk hkj (by rwa [Array.getElem?_setIfInBounds_ne (Ne.symm hkj)] at hy),fun k hk=>hR.above k (by simpa using hk),hR.past,fun k op hop=>by simpa using hR.nums k op hop,hR.bx,hR.chan⟩
   obtain ⟨N,gs1,sl1,t1,g0,d1,s1,tm1,qq1,r1,r2,r3,r4⟩:=RMJ.meet2 _ _ (w'.at d) sl' t m qq (Nat.le_refl _) hm hR2
   exact ⟨N+1,gs1,sl1,t1,g0,d1,s1,tm1,qq1,by simp only [runNT,hst,hr];rw [Array.append_empty];exact r1,r2,r3,r4⟩
  ·obtain ⟨k,gk,zk,shk,d',hk0,hk,hr⟩:=crowd_send_meets_some (sl:=sl') hi hcomm (show (w'.at d).heap[ch]? = _ from hch) hp (fun k n hm=>by
    obtain ⟨rfl,rfl,g0,rfl,_⟩:=hpar k n hm
    exact ⟨rfl,Ne.symm hj0,_,_,_,h0⟩)
   obtain ⟨rfl,_,g0,rfl,hQ⟩:=hpar k 0 (mem_partners.2 ⟨_,by rw [Array.getElem?_setIfInBounds_ne (Ne.symm hk0)];exact hk,by rw [offersAt_parked_recv];simp⟩)
   rw [h0] at hk
   obtain ⟨e1,e2,e3⟩:=Jk (Option.some.inj hk)
   subst e2
   rw [finishComm_recv,finishComm_send,Jg,Array.empty_append,← e3] at hr
   refine ⟨1,_,sl',_,g0,d',s,tm,qq,by simp only [runNT,hst,hr];rfl,hQ,hch,hR.four (d:=d') (s:=s) (tm:=tm) rfl (.inr rfl)⟩
 ·obtain ⟨gs2,t2,d2,m2,qq2,h1,h2,h3⟩:=hR.slip hrun (d:=d) (sl':=sl') hi hx ej
  obtain ⟨N,gs1,sl1,t1,g0,d1,s1,tm1,qq1,r1,r2,r3,r4⟩:=ih _ (by omega) gs2 (w'.at d2) sl' _ m2 qq2 (Nat.le_refl _) (fun d=>hsend d) h3
  exact ⟨N+1,gs1,sl1,t1,g0,d1,s1,tm1,qq1,by simp only [runNT,hst,h1];exact r1,r2,r3,r4⟩
end
end Go.Sim
end
section
namespace Go.Sim
open Go Go.Instr Go.Conc
open Go.ConcN (sumTo upd sumTo_upd upd_ne upd_same)
structure PastC (Shun:Loc→Prop) (ch j p B:Nat) (t:Trace):Prop where
 clean:∀said,¬ Race said t
 known:∀i a,touchAt t i=some a→a.loc.isMemory=true→Knows t 0 i∨(Shun a.loc∧a.kind=.atomic)
 over:∀i g,t.g? i=some g→g≠0→t.counts i→(∃k,t.g? k=some 0∧HappensBefore t i k)∨(g=j∧i≤p)
 act:t.act? p=some (.close ch)
 who:t.g? p=some j
 heard:t.heard p
 hears:Deaf t 0=0
 seen:∀op∈t,op.act.low B
section
variable {Shun:Loc→Prop} {ch j p B:Nat} {t u:Trace}
theorem PastC.lt (h:PastC Shun ch j p B t):p < t.size:=lt_of_act? h.act
theorem PastC.zero (h:PastC Shun ch j p B t) (hu:∀op∈u,op.g=0) (hs:∀op∈u,∀b,op.act.touch? = some b→Shun b.loc→b.kind≠.plain) (hd:Deaf (t ++ u) 0=0) (hl:∀op∈u,op.act.low B):PastC Shun ch j p B (t ++ u):=by
 refine ⟨fun said=>noRace_append (h.clean said) hu fun i a ha op hop b hb hc=>?_,fun i a ha hm=>?_,fun i g hg hne hc=>?_,by rw [act?_old h.lt];exact h.act,by rw [g?_old h.lt];exact h.who,(heard_old h.lt).2 h.heard,hd,seen_app h.seen hl⟩
 ·obtain ⟨c1,c2,c3,c4⟩:=hc
  rcases h.known i a ha c2 with hk | ⟨hsa,hka⟩
  ·exact hk
  ·have hkb:=hs op hop b hb (c1▸hsa)
   rw [hka] at c4
   rcases c4 with x | x | ⟨_,x,_⟩
   ·cases x
   ·exact absurd x hkb
   ·cases x
 ·rcases zt ha with ⟨_,h1⟩ | ⟨op,h1,h2,h3⟩
  ·exact (h.known i a h1 hm).imp (·.app u) id
  ·have:=knows_own h2
   rw [hu op h1] at this
   exact .inl this
 ·rcases yN hc with ⟨h1,h2⟩ | ⟨op,a,h1,h2,h3⟩
  ·exact xL (h.over i g (by rw [← g?_old (u:=u) h1];exact hg) hne h2)
  ·rw [gof h2,hu op h1] at hg
   exact absurd (Option.some.inj hg).symm hne
theorem PastC.quiet {g:Nat} (h:PastC Shun ch j p B t) (hu:∀op∈u,op.g=g) (hn:∀op∈u,op.act.touch? = none) (hd:Deaf (t ++ u) 0=0) (hl:∀op∈u,op.act.low B):PastC Shun ch j p B (t ++ u):=by
 refine ⟨fun said=>noRace_append (h.clean said) hu fun i a _ op hop b hb _=>(by rw [hn op hop] at hb;cases hb),fun i a ha hm=>?_,fun i g hg hne hc=>?_,by rw [act?_old h.lt];exact h.act,by rw [g?_old h.lt];exact h.who,(heard_old h.lt).2 h.heard,hd,seen_app h.seen hl⟩
 ·rcases zt ha with ⟨_,h1⟩ | ⟨op,h1,h2,h3⟩
  ·exact (h.known i a h1 hm).imp (·.app u) id
  ·rw [hn op h1] at h3;cases h3
 ·rcases yN hc with ⟨h1,h2⟩ | ⟨op,a,h1,h2,h3⟩
  ·exact xL (h.over i g (by rw [← g?_old (u:=u) h1];exact hg) hne h2)
  ·rw [hn op h1] at h3;cases h3
theorem PastC.done (h:PastC Shun ch j p B t) (hch:ch < B) {y:MemOp} (hy:y.g=0∧y.act=.recvClosed ch):Past Shun B (t ++ #[y]):=by
 have hz:(t ++ #[y])[t.size]? = some y:=by simp
 have hzg:(t ++ #[y]).g? t.size=some 0:=by rw [gof hz,hy.1]
 have hny:∀op∈#[y],op.act.touch? = none:=fun op hop=>by simp at hop;rw [hop,hy.2];rfl
 have hst:∀op∈#[y],op.act≠.mark .disable∧op.act≠.mark .enable:=fun op hop=>by simp at hop;rw [hop,hy.2];simp
 have pz:HappensBefore (t ++ #[y]) p t.size:=.single (.inr ⟨.closed (c:=ch) (by rw [act?_old h.lt];exact h.act) (by rw [act?_of hz,hy.2]),(heard_old h.lt).2 h.heard,⟨0,hzg,by rw [deaf_old (Nat.le_refl _)];exact h.hears⟩⟩)
 refine ⟨fun said=>noRace_appendMute (h.clean said) hny,fun i a ha hm=>?_,fun i g hg hne hc=>?_,(Go.ConcN.Deaf_still t 0 _ hst).trans h.hears,seen_app h.seen fun op hop=>(by simp at hop;rw [hop,hy.2];exact hch)⟩
 ·rcases zt ha with ⟨_,h1⟩ | ⟨op,h1,h2,h3⟩
  ·exact (h.known i a h1 hm).imp (·.app _) id
  ·rw [hny op h1] at h3;cases h3
 ·rcases yN hc with ⟨h1,h2⟩ | ⟨op,a,h1,h2,h3⟩
  ·have hg':t.g? i=some g:=by rw [← g?_old (u:=#[y]) h1];exact hg
   rcases xL (u:=#[y]) (h.over i g hg' hne h2) with h4 | ⟨rfl,h5⟩
   ·exact h4
   ·refine ⟨t.size,hzg,?_⟩
    rcases Nat.lt_or_ge i p with hlt | hge
    ·obtain ⟨zi,hzi,hzig⟩:=Option.map_eq_some_iff.1 hg'
     obtain ⟨zp,hzp,hzpg⟩:=Option.map_eq_some_iff.1 h.who
     exact (hb_app _ (hb_po hlt hzi hzp (hzig.trans hzpg.symm))).trans pz
    ·obtain rfl:i=p:=by omega
     exact pz
  ·rw [hny op h1] at h3;cases h3
theorem PastC.of (h:Past Shun B t) (hj:j≠0) (hdj:Deaf t j=0) (hch:ch < B) (hsh:Shun (.obj ch)) (hw:∀i a,touchAt t i=some a→a.loc=.obj ch→a.write=true→Knows t j i∨a.kind=.atomic) {fn:FuncId} {ps:String}:PastC Shun ch j (t.size+1) B (t ++ #[({ g:=j,fn:=fn,pos:=ps,act:=.access ⟨.obj ch,false,true⟩ }:MemOp),{ g:=j,fn:=fn,pos:=ps,act:=.close ch }]):=by
 let u:Trace:=#[({ g:=j,fn:=fn,pos:=ps,act:=.access ⟨.obj ch,false,true⟩ }:MemOp),{ g:=j,fn:=fn,pos:=ps,act:=.close ch }]
 have hg:∀op∈u,op.g=j:=fun op hop=>by simp [u] at hop;rcases hop with rfl | rfl <;> rfl
 have ht:∀op∈u,∀b,op.act.touch? = some b→b=⟨.obj ch,false,.atomic⟩:=fun op hop b hb=>by
  simp [u] at hop
  rcases hop with rfl | rfl
  ·simp [MemAct.touch?] at hb;exact hb.symm
  ·cases hb
 have hst:∀op∈u,op.act≠.mark .disable∧op.act≠.mark .enable:=fun op hop=>by simp [u] at hop;rcases hop with rfl | rfl <;> simp
 have hy:(t ++ u)[t.size+1]? = some { g:=j,fn:=fn,pos:=ps,act:=.close ch }:=by simp [u]
 refine ⟨fun said=>noRace_append (h.clean said) hg fun i a ha op hop b hb hc=>?_,fun i a ha hm=>?_,fun i g hgi hne hc=>?_,by rw [act?_of hy],by rw [gof hy],⟨j,by rw [gof hy],by rw [Xj hst];exact hdj⟩,(Go.ConcN.Deaf_still t 0 _ hst).trans h.hears,seen_app h.seen fun op hop=>?_⟩
 ·obtain rfl:=ht op hop b hb
  obtain ⟨c1,c2,c3,c4⟩:=hc
  rcases hw i a ha c1 (c3.resolve_right (by simp)) with hk | hk
  ·exact hk
  ·rw [hk] at c4
   rcases c4 with x | x | ⟨_,x,_⟩ <;> cases x
 ·rcases zt (u:=u) ha with ⟨_,h1⟩ | ⟨op,h1,h2,h3⟩
  ·exact (h.known i a h1 hm).imp (·.app _) id
  ·obtain rfl:=ht op h1 a h3
   exact .inr ⟨hsh,rfl⟩
 ·rcases yN (u:=u) hc with ⟨h1,h2⟩ | ⟨op,a,h1,h2,h3⟩
  ·exact (xL (u:=u) (p:=False) (.inl (h.over i g (by rw [← g?_old (u:=u) h1];exact hgi) hne h2))).imp id False.elim
  ·have hlt:=lt_size_of_getElem? h2
   have e:(t ++ u).size=t.size+2:=by simp [u]
   rw [gof h2,hg op h1] at hgi
   exact .inr ⟨(Option.some.inj hgi).symm,by omega⟩
 ·simp at hop
  rcases hop with rfl | rfl <;> exact hch
end
section
variable (P:Program) (Bx:Nat→Prop) (ch:Nat) (z:Value) (ok:Bool) (Q:Goroutine→World→Prop)
inductive Late:Nat→Goroutine→World→Prop
 | ready {a g0:Goroutine} {w:World}:a.status=.running→(∀w1,zL Bx w w1→stepG P true a w1=.comm (core g0) #[rcase ch z] true (.recv ok) w1 #[]∧Q g0 w1)→Late 0 a w
 | step {n:Nat} {a:Goroutine} {w:World} (f:World→Goroutine) (dd:World→Nat) (ee:World→Array Event):a.status=.running→(∀w1,zL Bx w w1→stepG P true a w1=.go (f w1) (w1.at (dd w1)) (ee w1)∧∀e∈ee w1,EvB Bx e)→(∀w1,zL Bx w w1→Late n (f w1) w1)→Late (n+1) a w
end
section
variable {P:Program} {S Bx:Nat→Prop} {ch:Nat} {z:Value} {ok:Bool} {Q:Goroutine→World→Prop} {j p:Nat}
theorem Late.keep {n:Nat} {a:Goroutine} {w w1:World} (h:Late P Bx ch z ok Q n a w) (k:zL Bx w w1):Late P Bx ch z ok Q n a w1:=by
 cases h with
 | ready hr hq=>exact .ready hr fun w2 k2=>hq w2 (k.trans k2)
 | step f dd ee hr hs hn=>exact .step f dd ee hr (fun w2 k2=>hs w2 (k.trans k2)) fun w2 k2=>hn w2 (k.trans k2)
theorem Late.running {n:Nat} {a:Goroutine} {w:World} (h:Late P Bx ch z ok Q n a w):a.status=.running:=by
 cases h with
 | ready hr _=>exact hr
 | step _ _ _ hr _ _=>exact hr
theorem Stand.late {n:Nat} {a:Goroutine} {w:World} (h:Stand P Bx ch z ok Q (n+1) a w):Late P Bx ch z ok Q n a w:=by
 induction n generalizing a w with
 | zero =>
   cases h with
   | ready hr hq=>exact .ready hr fun w1 k1=>⟨(hq w1 k1).2,(hq w1 k1).1⟩
 | succ n ih =>
   cases h with
   | step f dd ee hr hs hn=>exact .step f dd ee hr hs fun w1 k1=>ih (hn w1 k1)
theorem Late.woken {g0:Goroutine} {w:World} (hq:∀w1,zL Bx w w1→stepG P true g0 w1=.comm (core g0) #[rcase ch z] true (.recv ok) w1 #[]∧Q g0 w1):Late P Bx ch z ok Q 0 { parked (core g0) #[rcase ch z] (.recv ok) with status:=.running } w :=
 .ready (g0:=g0) rfl fun w1 k1=>⟨by rw [stepG_tries,← (hq w1 k1).1];exact stepG_same rfl rfl rfl w1,(hq w1 k1).2⟩
structure RMD (P:Program) (S Bx:Nat→Prop) (ch:Nat) (z:Value) (ok:Bool) (Q:Goroutine→World→Prop) (j p:Nat) (gs:Array Goroutine) (w':World) (t:Trace) (n:Nat) (qq:Nat→Nat):Prop where
 zero:∃a0,gs[0]? = some a0∧Late P Bx ch z ok Q n a0 w'
 old:Leavers P t gs qq
 past:PastC (zA S) ch j p w'.heap.size t
 nums:∀(i:Nat) (op:MemOp),t[i]? = some op→op.g < gs.size
 chan:ch < w'.heap.size∧∃s r tm,w'.heap[ch]? = some (.chan 0 #[] true s r tm)
 bx:∀b,Bx b→b < w'.heap.size∧¬ S b
theorem RMD.done:∀(M:Nat) (gs:Array Goroutine) (w':World) (sl:Option (Nat×Nat)) (t:Trace) (n:Nat) (qq:Nat→Nat),n+sumTo gs.size qq≤M→RMD P S Bx ch z ok Q j p gs w' t n qq →
 ∃(N:Nat) (gs1:Array Goroutine) (sl1:Option (Nat×Nat)) (t1:Trace) (g0:Goroutine) (d:Nat),runNT P N (crowd gs w' sl) t=(.next (crowd gs1 (w'.at d) sl1),t1)∧(∀w1,zL Bx w' w1→Q g0 w1)∧RM P S gs1 (Conc.served (core g0) (recvd ok z false)) (w'.at d) t1:=by
 intro M
 induction M using Nat.strongRecOn with
 | _ M ih =>
 intro gs w' sl t n qq hM hR
 obtain ⟨a0,h0,hS⟩:=hR.zero
 have hr0:=hS.running
 have hlt0:0 < gs.size:=(Array.getElem?_eq_some_iff.1 h0).1
 obtain ⟨hcl,s,r,tm,hch⟩:=hR.chan
 have haw:∀x∈gs,Conc.awake x:=by
  intro x hx
  obtain ⟨i,hi,rfl⟩:=Array.mem_iff_getElem.1 hx
  rcases Nat.eq_zero_or_pos i with rfl | hpos
  ·have:gs[0]=a0:=by simpa [Array.getElem?_eq_getElem hi] using h0
   rw [this];exact awake_of (.inl hr0)
  ·exact awake_of ((hR.old.old i _ hpos (Array.getElem?_eq_getElem hi)).status.elim .inl fun x=>.inr (.inr x))
 obtain ⟨i,x,d,sl',hi,hx,hst⟩:=crowd_pick (P:=P) (w:=w') (sl:=sl) haw ⟨0,a0,h0,hr0⟩
 rcases Nat.eq_zero_or_pos i with rfl | hpos
 ·obtain rfl:x=a0:=by rw [h0] at hi;exact (Option.some.inj hi).symm
  have hkd:zL Bx w' (w'.at d):=fun _ _=>rfl
  cases hS with
  | @ready _ g0 _ hr hq =>
    obtain ⟨hcomm,_⟩:=hq (w'.at d) hkd
    have hp:partners (gs.setIfInBounds 0 ph) ch true=[]:=by
     refine List.eq_nil_iff_forall_not_mem.2 fun ⟨k,n⟩ hm=>?_
     obtain ⟨y,hy,ho⟩:=mem_partners.1 hm
     rcases getElem?_stand gs 0 k y hy with ⟨_,rfl⟩ | ⟨hk,hy⟩
     ·rw [offersAt_ph] at ho;cases ho
     ·have:y.status≠.blocked:=by rcases (hR.old.old k y (by omega) hy).status with e | e <;> rw [e] <;> simp
      rw [offersAt_of_not_blocked this] at ho;cases ho
    have hr1:=crowd_recv_closed (sl:=sl') hi (show stepG P (0 == 0) x (w'.at d)=_ from hcomm) (show (w'.at d).heap[ch]? = _ from hch) hp
    rw [finishComm_recv,Jg,Array.empty_append] at hr1
    refine ⟨1,_,sl',_,g0,d,by simp only [runNT,hst,hr1];rfl,fun w1 k1=>(hq w1 k1).2,?_⟩
    refine ⟨Array.getElem?_setIfInBounds_self_of_lt hlt0,⟨qq,fun k y hk hy=>?_,fun k hk=>?_⟩,hR.past.done hcl ⟨rfl,rfl⟩,qV hR.nums (by simp) fun op hop=>by simp at hop;rw [hop];simpa using hlt0⟩
    ·rw [Array.getElem?_setIfInBounds_ne (by omega)] at hy
     rw [Deaf_other t (g':=0) (by omega) _ (fun op hop=>by simp at hop;rw [hop])]
     exact hR.old.old k y hk hy
    ·rw [Deaf_other t (g':=0) (by simp at hk;omega) _ (fun op hop=>by simp at hop;rw [hop])]
     exact hR.old.above k (by simpa using hk)
  | @step n' _ _ f dd ee hr hs hn =>
    obtain ⟨hgo,hev⟩:=hs (w'.at d) hkd
    have hst':=hn (w'.at d) hkd
    generalize f (w'.at d)=a' at *
    generalize dd (w'.at d)=d' at *
    generalize ee (w'.at d)=es at *
    have hrunT:=runT_crowd_go (P:=P) (sl:=sl') (i:=0) hi (show stepG P (0 == 0) x (w'.at d)=_ from hgo)
    have hown:∀op∈MemOp.ofEvents 0 x.frame.fn x.frame.place es,op.g=0:=fun op hop=>by obtain ⟨_,_,rfl⟩:=Go.Conc.mem_ofEvents hop;rfl
    have hR2:RMD P S Bx ch z ok Q j p ((gs.map (woken P x a' ((w'.at d).at d'))).setIfInBounds 0 a') (w'.at d') (t ++ MemOp.ofEvents 0 x.frame.fn x.frame.place es) n' qq:=by
     refine ⟨⟨a',Array.getElem?_setIfInBounds_self_of_lt (by simpa using hlt0),hst'.keep fun _ _=>rfl⟩,⟨fun k y hk hy=>?_,fun k hk=>?_⟩,?_,qV hR.nums (by simp) (fun op hop=>by rw [hown op hop];simpa using hlt0),hR.chan,hR.bx⟩
     ·rw [Array.getElem?_setIfInBounds_ne (by omega),Array.getElem?_map] at hy
      obtain ⟨v,hv,rfl⟩:=Option.map_eq_some_iff.1 hy
      have hq:=hR.old.old k v hk hv
      rw [woken_quitsD hq,Deaf_other t (g':=0) (by omega) _ hown]
      exact hq
     ·rw [Deaf_other t (g':=0) (by simp at hk;omega) _ hown]
      exact hR.old.above k (by simpa using hk)
     ·refine hR.past.zero hown (fun op hop b hb hsh=>?_) ?_ (fun op hop=>?_)
      ·obtain ⟨ev,hev',rfl⟩:=Go.Conc.mem_ofEvents hop
       obtain ⟨hb1,_⟩:=(hev ev hev').1 b hb
       exfalso
       cases hl:b.loc with
       | cell ad=>rw [hl] at hb1 hsh;exact (hR.bx _ hb1).2 hsh
       | obj r=>rw [hl] at hb1 hsh;exact (hR.bx _ hb1).2 hsh
       | _=>rw [hl] at hb1;exact hb1
      ·rw [Deaf_own,deafBehind_still fun ev hev'=>⟨(hev ev hev').2.1,(hev ev hev').2.2.1⟩]
       exact hR.past.hears
      ·obtain ⟨ev,hev',rfl⟩:=Go.Conc.mem_ofEvents hop
       exact (hev ev hev').2.2.2 _ fun b hb=>(hR.bx b hb).1
    obtain ⟨N,gs1,sl1,t1,g0,d1,r1,r2,r3⟩:=ih (n'+sumTo gs.size qq) (by omega) _ (w'.at d') sl' _ n' qq (by simp) hR2
    exact ⟨N+1,gs1,sl1,t1,g0,d1,by simp only [runNT,hst,hrunT];exact r1,r2,r3⟩
 ·have hq1:=hR.old.old i x hpos hi
  have hi0:(i == 0)=false:=by simp;omega
  have hlt:i < gs.size:=(Array.getElem?_eq_some_iff.1 hi).1
  cases hqi:qq i with
  | zero=>rw [hqi] at hq1;rw [hq1.1] at hx;cases hx
  | succ k =>
    rw [hqi] at hq1
    rcases hq1 with ⟨hf,_⟩ | ⟨_,g',es,hm,hstp,hq'⟩
    ·rw [hf] at hx;cases hx
    have hrunT:=runT_crowd_go (P:=P) (sl:=sl') (i:=i) hi (by rw [hi0];exact hstp (w'.at d))
    have hsum:sumTo gs.size (upd qq i k)+(k+1)=sumTo gs.size qq+k:=by
     have:=sumTo_upd qq k id hlt
     simpa [hqi] using this
    have hown:∀op∈MemOp.ofEvents i x.frame.fn x.frame.place es,op.g=i:=fun op hop=>by obtain ⟨_,_,rfl⟩:=Go.Conc.mem_ofEvents hop;rfl
    have hR2:RMD P S Bx ch z ok Q j p ((gs.map (woken P x g' (w'.at d))).setIfInBounds i g') (w'.at d) (t ++ MemOp.ofEvents i x.frame.fn x.frame.place es) n (upd qq i k):=by
     refine ⟨⟨a0,?_,hS.keep fun _ _=>rfl⟩,⟨fun k' y hk hy=>?_,fun k' hk=>?_⟩,?_,qV hR.nums (by simp) (fun op hop=>by rw [hown op hop];simpa using hlt),hR.chan,hR.bx⟩
     ·rw [Array.getElem?_setIfInBounds_ne (by omega),Array.getElem?_map,h0,Option.map_some,woken_run hr0]
     ·by_cases hji:i=k'
      ·subst hji
       rw [Array.getElem?_setIfInBounds_self_of_lt (by simpa using hlt)] at hy
       obtain rfl:=Option.some.inj hy
       rw [upd_same,Deaf_own]
       exact hq'
      ·rw [Array.getElem?_setIfInBounds_ne hji,Array.getElem?_map] at hy
       obtain ⟨v,hv,rfl⟩:=Option.map_eq_some_iff.1 hy
       have hqj:=hR.old.old k' v hk hv
       rw [woken_quitsD hqj,upd_ne qq k (Ne.symm hji),Deaf_other t hji _ hown]
       exact hqj
     ·rw [Deaf_other t (g':=i) (by simp at hk;omega) _ hown]
      exact hR.old.above k' (by simpa using hk)
     ·refine hR.past.quiet hown (fun op hop=>?_) ?_ (fun op hop=>?_)
      ·obtain ⟨ev,hev,rfl⟩:=Go.Conc.mem_ofEvents hop
       exact touch_mute (hm ev hev)
      ·rw [Deaf_other t (by omega) _ hown]
       exact hR.past.hears
      ·obtain ⟨ev,hev,rfl⟩:=Go.Conc.mem_ofEvents hop
       exact low_mute (hm ev hev) _
    obtain ⟨N,gs1,sl1,t1,g0,d1,r1,r2,r3⟩:=ih (n+sumTo gs.size (upd qq i k)) (by omega) _ (w'.at d) sl' _ n (upd qq i k) (by simp) hR2
    exact ⟨N+1,gs1,sl1,t1,g0,d1,by simp only [runNT,hst,hrunT];exact r1,r2,r3⟩
inductive Closing (P:Program) (ch:Nat):Nat→Goroutine→Prop
 | close {g:Goroutine}:g.status=.running→mayWake P g=true→(∀(w1:World) (s:Nat) (tm:Bool),w1.heap[ch]? = some (.chan 0 #[] false s s tm)→∃g' q,stepG P false g w1=.go g' (w1.shut ch s s tm) #[⟨.obj ch,false,true⟩,⟨.obj ch,true,true⟩]∧QuitsD P q 0 g')→Closing P ch 0 g
 | step {n:Nat} {g:Goroutine} (f:World→Goroutine) (dd:World→Nat) (ee:World→Array Event):g.status=.running→(∀w1,stepG P false g w1=.go (f w1) (w1.at (dd w1)) (ee w1)∧∀e∈ee w1,Event.mute e=true∧e.loc≠.mark .disable∧e.loc≠.mark .enable)→(∀w1,Closing P ch n (f w1))→Closing P ch (n+1) g
theorem Closing.running {n:Nat} {g:Goroutine} (h:Closing P ch n g):g.status=.running:=by
 cases h with
 | close h _ _=>exact h
 | step _ _ _ h _ _=>exact h
theorem Late.map {Q':Goroutine→World→Prop} (hq:∀g w,Q' g w→Q g w) {n:Nat} {a:Goroutine} {w:World} (h:Late P Bx ch z ok Q' n a w):Late P Bx ch z ok Q n a w:=by
 induction h with
 | ready hr h=>exact .ready hr fun w1 k1=>⟨(h w1 k1).1,hq _ _ (h w1 k1).2⟩
 | step f dd ee hr hs _ ih=>exact .step f dd ee hr hs fun w1 k1=>ih w1 k1
theorem Past.wide {Shun Shun':Loc→Prop} {B:Nat} {t:Trace} (h:Past Shun B t) (hs:∀l,Shun l→Shun' l):Past Shun' B t:=⟨h.clean,fun i a ha hm=>(h.known i a ha hm).imp id fun ⟨x,y⟩=>⟨hs _ x,y⟩,h.over,h.hears,h.seen⟩
theorem evB_evL {e:Event} {B:Nat} (h:EvB Bx e) (hb:∀b,Bx b→b < B∧¬ S b):EvL (zA S) B e:=by
 refine ⟨fun x hx hsh=>?_,h.2.1,h.2.2.1,h.2.2.2 B fun b hB=>(hb b hB).1⟩
 obtain ⟨hb1,_⟩:=h.1 x hx
 exfalso
 cases hl:x.loc with
 | cell ad=>rw [hl] at hb1 hsh;exact (hb _ hb1).2 hsh
 | obj r=>rw [hl] at hb1 hsh;exact (hb _ hb1).2 hsh
 | _=>rw [hl] at hb1;exact hb1
theorem RMM.shut:∀(M:Nat) (gs:Array Goroutine) (a0 ak:Goroutine) (w':World) (sl:Option (Nat×Nat)) (t:Trace) (n m:Nat) (qq:Nat→Nat),n+m+sumTo gs.size qq≤M→RMM P S ch j gs a0 ak w' t qq→Stand P Bx ch z ok (fun g w=>stepG P true g w=.comm (core g) #[rcase ch z] true (.recv ok) w #[]∧Q g w) m a0 w'→Closing P ch n ak→(∀b,Bx b→b < w'.heap.size∧¬ S b∧b≠ch) →
 ∃(N:Nat) (gs1:Array Goroutine) (sl1:Option (Nat×Nat)) (t1:Trace) (d s:Nat) (tm:Bool) (p m1:Nat) (qq1:Nat→Nat),runNT P N (crowd gs w' sl) t=(.next (crowd gs1 ((w'.at d).shut ch s s tm) sl1),t1)∧w'.heap[ch]? = some (.chan 0 #[] false s s tm)∧RMD P (fun c=>S c∨c=ch) Bx ch z ok Q j p gs1 ((w'.at d).shut ch s s tm) t1 m1 qq1:=by
 intro M
 induction M using Nat.strongRecOn with
 | _ M ih =>
 intro gs a0 ak w' sl t n m qq hM hR hS hC hbx
 have hj:=hR.jpos
 have hj0:j≠0:=by omega
 have h0:=hR.zero
 have hlt0:0 < gs.size:=(Array.getElem?_eq_some_iff.1 h0).1
 have hltj:j < gs.size:=(Array.getElem?_eq_some_iff.1 hR.here).1
 have hrj:=hC.running
 obtain ⟨hcl,s,tm,hch⟩:=hR.chan
 have haw:∀x∈gs,Conc.awake x:=by
  intro x hx
  obtain ⟨i,hi,rfl⟩:=Array.mem_iff_getElem.1 hx
  by_cases e0:i=0
  ·subst e0
   have:gs[0]=a0:=by simpa [Array.getElem?_eq_getElem hi] using h0
   rw [this];exact hS.awake
  ·by_cases ej:i=j
   ·subst ej
    have:gs[i]=ak:=by simpa [Array.getElem?_eq_getElem hi] using hR.here
    rw [this];exact awake_of (.inl hrj)
   ·exact awake_of ((hR.old i _ (by omega) ej (Array.getElem?_eq_getElem hi)).status.elim .inl fun x=>.inr (.inr x))
 obtain ⟨i,x,d,sl',hi,hx,hst⟩:=crowd_pick (P:=P) (w:=w') (sl:=sl) haw ⟨j,ak,hR.here,hrj⟩
 have hlt:i < gs.size:=(Array.getElem?_eq_some_iff.1 hi).1
 by_cases ej:i=j
 ·subst ej
  obtain rfl:x=ak:=by rw [hR.here] at hi;exact (Option.some.inj hi).symm
  have hi0:(i == 0)=false:=by simp;omega
  cases hC with
  | close hr hmw hcs =>
    obtain ⟨g',q,hgo,hq⟩:=hcs (w'.at d) s tm hch
    have hrunT:=runT_crowd_go (P:=P) (sl:=sl') (i:=i) hi (by rw [hi0];exact hgo)
    have eu:MemOp.ofEvents i x.frame.fn x.frame.place #[⟨.obj ch,false,true⟩,⟨.obj ch,true,true⟩]=#[{ g:=i,fn:=x.frame.fn,pos:=x.frame.place,act:=.access ⟨.obj ch,false,true⟩ },{ g:=i,fn:=x.frame.fn,pos:=x.frame.place,act:=.close ch }]:=by rw [ofEvents_eq];simp [MemAct.ofEvent]
    rw [eu] at hrunT
    have hsz:((w'.at d).shut ch s s tm).heap.size=w'.heap.size:=by show (w'.heap.setIfInBounds ch _).size=_;simp
    have hch':((w'.at d).shut ch s s tm).heap[ch]? = some (.chan 0 #[] true s s tm):=by
     show (w'.heap.setIfInBounds ch _)[ch]? = _
     simp [hcl]
    have hkeep:zL Bx w' ((w'.at d).shut ch s s tm):=fun b hb=>by
     show (w'.heap.setIfInBounds ch _)[b]? = _
     rw [Array.getElem?_setIfInBounds_ne (Ne.symm (hbx b hb).2.2)]
    have hwk:∀y:Goroutine,woken P x g' ((w'.at d).shut ch s s tm) y=y.again ((w'.at d).shut ch s s tm):=fun y=>by
     unfold woken
     rw [if_pos]
     rcases hq.status with e | e <;> rw [hmw,e] <;> rfl
    have hown:∀op∈(#[({ g:=i,fn:=x.frame.fn,pos:=x.frame.place,act:=.access ⟨.obj ch,false,true⟩ }:MemOp),{ g:=i,fn:=x.frame.fn,pos:=x.frame.place,act:=.close ch }]:Trace),op.g=i:=fun op hop=>by simp at hop;rcases hop with rfl | rfl <;> rfl
    have hstl:∀op∈(#[({ g:=i,fn:=x.frame.fn,pos:=x.frame.place,act:=.access ⟨.obj ch,false,true⟩ }:MemOp),{ g:=i,fn:=x.frame.fn,pos:=x.frame.place,act:=.close ch }]:Trace),op.act≠.mark .disable∧op.act≠.mark .enable:=fun op hop=>by simp at hop;rcases hop with rfl | rfl <;> simp
    obtain ⟨m1,b0,hb0,hL0⟩:∃m1 b0,woken P x g' ((w'.at d).shut ch s s tm) a0=b0∧Late P Bx ch z ok Q m1 b0 ((w'.at d).shut ch s s tm):=by
     rcases hS.up with ⟨_,g0,rfl,hq0⟩ | ⟨hm,hr0⟩
     ·exact ⟨0,_,by rw [hwk,again_recv_closed hch'],Late.woken fun w1 k1=>hq0 w1 (hkeep.trans k1)⟩
     ·obtain ⟨m',rfl⟩:∃m',m=m'+1:=⟨m - 1,by omega⟩
      refine ⟨m',a0,woken_run hr0,?_⟩
      exact (hS.late.map fun _ _ h=>h.2).keep hkeep
    refine ⟨1,_,sl',_,d,s,tm,t.size+1,m1,upd qq i q,by simp only [runNT,hst,hrunT];rfl,hch,⟨b0,?_,hL0⟩,⟨fun k y hk hy=>?_,fun k hk=>?_⟩,?_,qV hR.nums (by simp) (fun op hop=>by rw [hown op hop];simpa using hlt),⟨by rw [hsz];exact hcl,s,s,tm,hch'⟩,fun b hb=>⟨by rw [hsz];exact (hbx b hb).1,fun h=>h.elim (hbx b hb).2.1 (hbx b hb).2.2⟩⟩
    ·rw [Array.getElem?_setIfInBounds_ne hj0,Array.getElem?_map,h0,Option.map_some,hb0]
    ·rw [Go.ConcN.Deaf_still t k _ hstl]
     by_cases hji:i=k
     ·subst hji
      rw [Array.getElem?_setIfInBounds_self_of_lt (by simpa using hlt)] at hy
      obtain rfl:=Option.some.inj hy
      rw [upd_same,hR.hears]
      exact hq
     ·rw [Array.getElem?_setIfInBounds_ne hji,Array.getElem?_map] at hy
      obtain ⟨v,hv,rfl⟩:=Option.map_eq_some_iff.1 hy
      have hqj:=hR.old k v hk (Ne.symm hji) hv
      rw [woken_quitsD hqj,upd_ne qq q (Ne.symm hji)]
      exact hqj
    ·rw [Go.ConcN.Deaf_still t k _ hstl]
     exact hR.above k (by simpa using hk)
    ·rw [hsz]
     exact PastC.of (Go.Sim.Past.wide hR.past fun l hl=>by
      cases l with
      | cell ad=>exact .inl hl
      | obj r=>exact .inl hl
      | _=>exact hl.elim) hj0 hR.hears hcl (.inr rfl) hR.chk
  | @step n' _ f dd ee hr hs hn =>
    obtain ⟨hgo,hm⟩:=hs (w'.at d)
    have hC':=hn (w'.at d)
    generalize f (w'.at d)=a' at *
    generalize dd (w'.at d)=d' at *
    generalize ee (w'.at d)=es at *
    have hrunT:=runT_crowd_go (P:=P) (sl:=sl') (i:=i) hi (by rw [hi0];exact hgo)
    have hown:∀op∈MemOp.ofEvents i x.frame.fn x.frame.place es,op.g=i:=fun op hop=>by obtain ⟨_,_,rfl⟩:=Go.Conc.mem_ofEvents hop;rfl
    have hR2:RMM P S ch i ((gs.map (woken P x a' ((w'.at d).at d'))).setIfInBounds i a') a0 a' (w'.at d') (t ++ MemOp.ofEvents i x.frame.fn x.frame.place es) qq:=by
     refine ⟨?_,by simp [hltj],hj,fun k y hk hkj hy=>?_,fun k hk=>?_,hR.past.mute hj0 fun e he=>(hm e he).1,?_,fun k b hb hl hw=>?_,qV hR.nums (by simp) (fun op hop=>by rw [hown op hop];simpa using hlt),hR.chan⟩
     ·rw [Array.getElem?_setIfInBounds_ne hj0,Array.getElem?_map,h0,Option.map_some,hS.woken (show ((w'.at d).at d').heap[ch]? = _ from hch)]
     ·rw [Array.getElem?_setIfInBounds_ne (Ne.symm hkj),Array.getElem?_map] at hy
      obtain ⟨v,hv,rfl⟩:=Option.map_eq_some_iff.1 hy
      have hq:=hR.old k v hk hkj hv
      rw [woken_quitsD hq,Deaf_other t (Ne.symm hkj) _ hown]
      exact hq
     ·rw [Deaf_other t (g':=i) (by simp at hk;omega) _ hown]
      exact hR.above k (by simpa using hk)
     ·rw [Deaf_own,deafBehind_still fun ev hev'=>⟨(hm ev hev').2.1,(hm ev hev').2.2⟩]
      exact hR.hears
     ·rcases zt hb with ⟨_,h1⟩ | ⟨op,h1,_,h3⟩
      ·exact (hR.chk k b h1 hl hw).imp (·.app _) id
      ·obtain ⟨ev,hev,rfl⟩:=Go.Conc.mem_ofEvents h1
       rw [touch_mute (hm ev hev).1] at h3;cases h3
    obtain ⟨N,gs1,sl1,t1,d1,s1,tm1,p1,m1,qq1,r1,r2,r3⟩:=ih (n'+m+sumTo gs.size qq) (by omega) _ a0 a' (w'.at d') sl' _ n' m qq (by simp) hR2 (hS.keep fun _ _=>rfl) hC' hbx
    exact ⟨N+1,gs1,sl1,t1,d1,s1,tm1,p1,m1,qq1,by simp only [runNT,hst,hrunT];exact r1,r2,r3⟩
 ·by_cases e0:i=0
  ·subst e0
   obtain rfl:x=a0:=by rw [h0] at hi;exact (Option.some.inj hi).symm
   have hkd:zL Bx w' (w'.at d):=fun _ _=>rfl
   cases hS with
   | parked hq=>cases hx
   | ready hr hq =>
     obtain ⟨_,hcomm⟩:=hq (w'.at d) hkd
     have hp:partners (gs.setIfInBounds 0 ph) ch true=[]:=by
      refine List.eq_nil_iff_forall_not_mem.2 fun ⟨k,n⟩ hm=>?_
      obtain ⟨y,hy,ho⟩:=mem_partners.1 hm
      rcases getElem?_stand gs 0 k y hy with ⟨_,rfl⟩ | ⟨hk,hy⟩
      ·rw [offersAt_ph] at ho;cases ho
      ·have:y.status≠.blocked:=by
        by_cases ek:k=j
        ·subst ek
         rw [hR.here] at hy;cases hy
         rw [hrj];simp
        ·rcases (hR.old k y (by omega) ek hy).status with e | e <;> rw [e] <;> simp
       rw [offersAt_of_not_blocked this] at ho;cases ho
     have hr1:=crowd_waits (sl:=sl') hi (show stepG P (0 == 0) x (w'.at d)=_ from hcomm) (fun cc hcc=>by
      simp at hcc;subst hcc
      exact ways_recv_none (show (w'.at d).heap[ch]? = _ from hch) hp)
     rw [Jg] at hr1
     have hR2:RMM P S ch j (gs.setIfInBounds 0 (parked (core x) #[rcase ch z] (.recv ok))) (parked (core x) #[rcase ch z] (.recv ok)) ak (w'.at d) t qq :=
      ⟨Array.getElem?_setIfInBounds_self_of_lt hlt,by rw [Array.getElem?_setIfInBounds_ne (Ne.symm hj0)];exact hR.here,hj,fun k y hk hkj hy=>hR.old k y hk hkj (by rwa [Array.getElem?_setIfInBounds_ne (by omega)] at hy),fun k hk=>hR.above k (by simpa using hk),hR.past,hR.hears,hR.chk,fun k op hop=>by simpa using hR.nums k op hop,hR.chan⟩
     obtain ⟨N,gs1,sl1,t1,d1,s1,tm1,p1,m1,qq1,r1,r2,r3⟩:=ih (n+0+sumTo gs.size qq) (by omega) _ _ ak (w'.at d) sl' _ n 0 qq (by simp) hR2 (.parked fun w1 k1=>(hq w1 k1).1) hC hbx
     exact ⟨N+1,gs1,sl1,t1,d1,s1,tm1,p1,m1,qq1,by simp only [runNT,hst,hr1];rw [Array.append_empty];exact r1,r2,r3⟩
   | @step n' _ _ f dd ee hr hs hn =>
     obtain ⟨hgo,hev⟩:=hs (w'.at d) hkd
     have hst':=hn (w'.at d) hkd
     generalize f (w'.at d)=a' at *
     generalize dd (w'.at d)=d' at *
     generalize ee (w'.at d)=es at *
     have hrunT:=runT_crowd_go (P:=P) (sl:=sl') (i:=0) hi (show stepG P (0 == 0) x (w'.at d)=_ from hgo)
     have hown:∀op∈MemOp.ofEvents 0 x.frame.fn x.frame.place es,op.g=0:=fun op hop=>by obtain ⟨_,_,rfl⟩:=Go.Conc.mem_ofEvents hop;rfl
     have hR2:RMM P S ch j ((gs.map (woken P x a' ((w'.at d).at d'))).setIfInBounds 0 a') a' ak (w'.at d') (t ++ MemOp.ofEvents 0 x.frame.fn x.frame.place es) qq:=by
      refine ⟨by simp [hlt0],?_,hj,fun k y hk hkj hy=>?_,fun k hk=>?_,hR.past.own fun e he=>evB_evL (hev e he) fun b hb=>⟨(hbx b hb).1,(hbx b hb).2.1⟩,?_,fun k b hb hl hw=>?_,qV hR.nums (by simp) (fun op hop=>by rw [hown op hop];simpa using hlt),hR.chan⟩
      ·rw [Array.getElem?_setIfInBounds_ne (Ne.symm hj0),Array.getElem?_map,hR.here,Option.map_some,woken_run hrj]
      ·rw [Array.getElem?_setIfInBounds_ne (by omega),Array.getElem?_map] at hy
       obtain ⟨v,hv,rfl⟩:=Option.map_eq_some_iff.1 hy
       have hq:=hR.old k v hk hkj hv
       rw [woken_quitsD hq,Deaf_other t (g':=0) (by omega) _ hown]
       exact hq
      ·rw [Deaf_other t (g':=0) (by simp at hk;omega) _ hown]
       exact hR.above k (by simpa using hk)
      ·rw [Deaf_other t (Ne.symm hj0) _ hown]
       exact hR.hears
      ·rcases zt hb with ⟨_,h1⟩ | ⟨op,h1,_,h3⟩
       ·exact (hR.chk k b h1 hl hw).imp (·.app _) id
       ·obtain ⟨ev,hev',rfl⟩:=Go.Conc.mem_ofEvents h1
        rw [((hev ev hev').1 b h3).2] at hw;cases hw
     obtain ⟨N,gs1,sl1,t1,d1,s1,tm1,p1,m1,qq1,r1,r2,r3⟩:=ih (n+(n'+1)+sumTo gs.size qq) (by omega) _ a' ak (w'.at d') sl' _ n (n'+1) qq (by simp) hR2 (hst'.keep fun _ _=>rfl) hC hbx
     exact ⟨N+1,gs1,sl1,t1,d1,s1,tm1,p1,m1,qq1,by simp only [runNT,hst,hrunT];exact r1,r2,r3⟩
  ·have hq1:=hR.old i x (by omega) ej hi
   have hi0:(i == 0)=false:=by simp;omega
   cases hqi:qq i with
   | zero=>rw [hqi] at hq1;rw [hq1.1] at hx;cases hx
   | succ k =>
     rw [hqi] at hq1
     rcases hq1 with ⟨hf,_⟩ | ⟨_,g',es,hm,hstp,hq'⟩
     ·rw [hf] at hx;cases hx
     have hrunT:=runT_crowd_go (P:=P) (sl:=sl') (i:=i) hi (by rw [hi0];exact hstp (w'.at d))
     have hsum:sumTo gs.size (upd qq i k)+(k+1)=sumTo gs.size qq+k:=by
      have:=sumTo_upd qq k id hlt
      simpa [hqi] using this
     have hown:∀op∈MemOp.ofEvents i x.frame.fn x.frame.place es,op.g=i:=fun op hop=>by obtain ⟨_,_,rfl⟩:=Go.Conc.mem_ofEvents hop;rfl
     have hR2:RMM P S ch j ((gs.map (woken P x g' (w'.at d))).setIfInBounds i g') a0 ak (w'.at d) (t ++ MemOp.ofEvents i x.frame.fn x.frame.place es) (upd qq i k):=by
      refine ⟨?_,?_,hj,fun k' y hk hkj hy=>?_,fun k' hk=>?_,hR.past.mute e0 hm,?_,fun k' b hb hl hw=>?_,qV hR.nums (by simp) (fun op hop=>by rw [hown op hop];simpa using hlt),hR.chan⟩
      ·rw [Array.getElem?_setIfInBounds_ne e0,Array.getElem?_map,h0,Option.map_some,hS.woken (show (w'.at d).heap[ch]? = _ from hch)]
      ·rw [Array.getElem?_setIfInBounds_ne ej,Array.getElem?_map,hR.here,Option.map_some,woken_run hrj]
      ·by_cases hji:i=k'
       ·subst hji
        rw [Array.getElem?_setIfInBounds_self_of_lt (by simpa using hlt)] at hy
        obtain rfl:=Option.some.inj hy
        rw [upd_same,Deaf_own]
        exact hq'
       ·rw [Array.getElem?_setIfInBounds_ne hji,Array.getElem?_map] at hy
        obtain ⟨v,hv,rfl⟩:=Option.map_eq_some_iff.1 hy
        have hqj:=hR.old k' v hk hkj hv
        rw [woken_quitsD hqj,upd_ne qq k (Ne.symm hji),Deaf_other t hji _ hown]
        exact hqj
      ·rw [Deaf_other t (g':=i) (by simp at hk;omega) _ hown]
       exact hR.above k' (by simpa using hk)
      ·rw [Deaf_other t ej _ hown]
       exact hR.hears
      ·rcases zt hb with ⟨_,h1⟩ | ⟨op,h1,_,h3⟩
       ·exact (hR.chk k' b h1 hl hw).imp (·.app _) id
       ·obtain ⟨ev,hev,rfl⟩:=Go.Conc.mem_ofEvents h1
        rw [touch_mute (hm ev hev)] at h3;cases h3
     obtain ⟨N,gs1,sl1,t1,d1,s1,tm1,p1,m1,qq1,r1,r2,r3⟩:=ih (n+m+sumTo gs.size (upd qq i k)) (by omega) _ a0 ak (w'.at d) sl' _ n m (upd qq i k) (by simp) hR2 (hS.keep fun _ _=>rfl) hC hbx
     exact ⟨N+1,gs1,sl1,t1,d1,s1,tm1,p1,m1,qq1,by simp only [runNT,hst,hrunT];exact r1,r2,r3⟩
end
end Go.Sim
end
namespace Go.Sim
open Go Go.Instr Go.Conc
section
variable {P:Program} {Bx:Nat→Prop} {ch:Nat} {z:Value} {ok:Bool} {Q:Goroutine→World→Prop} {n:Nat} {w:World} {g g':Goroutine}
theorem YV (Bx:Nat→Prop) (w:World):zL Bx w w:=fun _ _=>rfl
theorem Stand.ctl (hs:g.status=.running) (h:∀w,stepG P true g w=.go g' w #[]) (k:Stand P Bx ch z ok Q (n+1) g' w):Stand P Bx ch z ok Q (n+2) g w :=
 .step (fun _=>g') (fun w=>w.drawn) (fun _=>#[]) hs (fun w1 _=>⟨h w1,fun e he=>by simp at he⟩) fun _ hk=>k.keep hk
variable {b:Frame} {a:Go.Act} {kk:List Item} {cs:List Frame} {ops:Array Oper} {i:Nat} {rest:List Nat} {o:Oper}
theorem Stand.pure {v:Value} (ho:ops[i]? = some o) (hg:o.guard=none) (hk:b.kind≠.early) (hr:∀w,(execOp a.eval o).run P w=.ok (.value v) w∧(execOp a.eval o).events P w #[]=#[])
 (k:Stand P Bx ch z ok Q (n+1) (G (b.at (a.put o.dst v) (.inRegion ops rest :: kk)) cs) w):Stand P Bx ch z ok Q (n+2) (G (b.at a (.inRegion ops (i :: rest) :: kk)) cs) w :=
 .ctl rfl (fun w=>by rw [stepG_value ho (by unfold Region.wanted;rw [hg]) hk (hr w).1,listed_none (hr w).2]) k
theorem qaP {x:Operand} {y:Value} (hop:o.op=.assign x∨o.op=.move x) (hx:a.eval x=y) (w:World):(execOp a.eval o).run P w=.ok (.value y) w∧(execOp a.eval o).events P w #[]=#[]:=by
 unfold execOp
 rcases hop with hop | hop <;> simp only [hop,hx] <;> constructor <;> simp [go_sem]
theorem jS {x:Operand} {xs:Array Value} {y:Value} {j:Nat} (hop:o.op=.extract x j) (hx:a.eval x=.tuple xs) (hy:xs[j]? = some y) (w:World):(execOp a.eval o).run P w=.ok (.value y) w∧(execOp a.eval o).events P w #[]=#[]:=by
 unfold execOp
 simp only [hop,hx,Instr.extract,hy]
 constructor <;> simp [go_sem]
theorem Stand.load {t e:TypeId} {x:Operand} {bk:Nat} {y:Value} {f:Nat×Nat} (ho:ops[i]? = some o) (hg:o.guard=none) (hk:b.kind≠.early) (hop:o.op=.load t x) (hx:a.eval x=.pointer (some ⟨bk,0,none⟩)) (hag:∀w,(isAgg t).run P w=.ok false w)
 (hb:Bx bk) (hc:w.heap[bk]? = some (.cells #[y] e f))
 (k:Stand P Bx ch z ok Q (n+1) (G (b.at (a.put o.dst y) (.inRegion ops rest :: kk)) cs) w):Stand P Bx ch z ok Q (n+2) (G (b.at a (.inRegion ops (i :: rest) :: kk)) cs) w:=by
 refine .step (fun _=>_) (fun w=>w.drawn) (fun w1=>listed P b.fn a o w1) rfl (fun w1 hw1=>?_) fun _ hk=>k.keep hk
 have hc1:w1.cell? ⟨bk,0,none⟩=some y:=by simp [World.cell?,(hw1 bk hb).trans hc]
 have hr:(execOp a.eval o).run P w1=.ok (.value y) w1:=by
  unfold execOp
  simp only [hop,hx]
  go_simp
 refine ⟨stepG_value ho (by unfold Region.wanted;rw [hg]) hk hr,fun ev hev=>?_⟩
 have h2:=mem_listed hev
 have e1:(execOp a.eval o).events P w1 #[]=#[⟨.cell ⟨bk,0,none⟩,false,false⟩]:=by
  unfold execOp
  simp only [hop,hx]
  simp [go_sem,hag,hc1]
 rw [e1] at h2
 simp at h2
 subst h2
 refine ⟨fun x hx=>?_,by simp,by simp,fun B hB=>by rw [ofEvent_cell0];exact hB bk hb⟩
 simp only [ofEvent_cell0,MemAct.touch?,Option.some.injEq] at hx
 subst hx
 exact ⟨hb,rfl⟩
theorem qeq {t:TypeId} {x:Operand} (ho:ops[i]? = some o) (hg:o.guard=none) (hk:b.kind≠.early) (hr:∀w,(execOp a.eval o).run P w=.ok (.comm #[rcase ch z] true (.recv ok)) w∧(execOp a.eval o).events P w #[]=#[]) (w:World) :
 stepG P true (G (b.at a (.inRegion ops (i :: rest) :: kk)) cs) w=.comm (core (G (b.at a (.inRegion ops (i :: rest) :: kk)) cs)) #[rcase ch z] true (.recv ok) w #[]:=by
 rw [stepG_comm ho (by unfold Region.wanted;rw [hg]) hk (hr w).1,listed_none (hr w).2,core_G]
theorem Closing.ctl (hs:g.status=.running) (h:∀w,stepG P false g w=.go g' w #[]) (k:Closing P ch n g'):Closing P ch (n+1) g :=
 .step (fun _=>g') (fun w=>w.drawn) (fun _=>#[]) hs (fun w1=>⟨h w1,fun e he=>by simp at he⟩) fun _=>k
end
theorem jw {md:Region.Mode} {ops:Array Oper} {l:Array Bool} (fuel t:Nat) (h:Region.ready md ops l≠[]) :
 ∃i t',i∈Region.ready md ops l∧Region.linearise.go md ops (fuel+1) t l []=i :: Region.linearise.go md ops fuel t' (l.setIfInBounds i true) []:=by
 have hlt:t % (Region.ready md ops l).length < (Region.ready md ops l).length:=Nat.mod_lt _ (List.length_pos_iff.2 h)
 obtain ⟨i,hi⟩:∃i,(Region.ready md ops l)[t % (Region.ready md ops l).length]? = some i:=⟨_,List.getElem?_eq_getElem hlt⟩
 refine ⟨i,t / (Region.ready md ops l).length,List.mem_of_getElem? hi,?_⟩
 rw [Region.linearise.go]
 change (match (Region.ready md ops l)[t % (Region.ready md ops l).length]? with
  | some i=>Region.linearise.go md ops fuel (t / (Region.ready md ops l).length) (l.setIfInBounds i true) [i]
  | none=>[].reverse)=_
 rw [hi]
 simp only []
 rw [linearise_go_acc,List.reverse_singleton,List.singleton_append]
end Go.Sim
section
namespace Go.Sim
open Go Go.Instr Go.Conc
open Go.ConcN (sumTo upd sumTo_upd upd_ne upd_same)
section
variable {P' P:Program} {K Ks:Cfg} {c g:Nat→Bool} {Fin:Goroutine→World→Prop}
variable {Bx:Nat→Prop} {ch:Nat} {z:Value} {ok:Bool} {Q:Goroutine→World→Prop} {j:Nat}
theorem evR_box {R:Nat→Nat→Prop} {e:Event} (h:EvR K R e) (hbx:∀b c,R b c→¬ Bx c):∀y,(MemAct.ofEvent e).touch? = some y→Yv Bx y.loc→y.write=false:=fun y hy hb=>by
 exfalso
 cases h with
 | cell ad wr b hr _ =>
   have e1:MemAct.ofEvent ⟨.cell ad,wr,false⟩=.access ⟨.cell ad,wr,false⟩:=by cases wr <;> rfl
   rw [e1] at hy
   simp only [MemAct.touch?,Option.some.injEq] at hy
   subst hy
   exact hbx _ _ hr hb
 | obj r wr b hr _ =>
   have e1:MemAct.ofEvent ⟨.obj r,wr,false⟩=.access ⟨.obj r,wr,false⟩:=by cases wr <;> rfl
   rw [e1] at hy
   simp only [MemAct.touch?,Option.some.injEq] at hy
   subst hy
   exact hbx _ _ hr hb
 | room=>simp [MemAct.ofEvent,MemAct.touch?] at hy
theorem qdJ {Sp:FuncId→Prop} {c0:Nat→Bool} {F:Nat→List Nat} (Z:Cov K P' P c g Sp) (Zs:Cov Ks P' P' c g (fun _=>False)) (hC:XH c0 F P') (hSp:∀f,Sp f→c0 f=false) {f:FuncId} (hcf:c0 f=true) (hFf:F f=[]) {args args':Array Value} {S:Nat→Prop} {R:Nat→Nat→Prop} {w w':World}
 {sb:Frame} {sa:Go.Act} {sops:Array Oper} {si:Nat} {srest:List Nat} {skk:List Item} {scs:List Frame} (hscs:scs≠[]) {bf:Frame} {aa:Go.Act} {ops:Array Oper} {i:Nat} {rest:List Nat} {kk:List Item} {cs:List Frame}
 (hT:LT P' true Fin (G (Frame.enter P' f args .normal) (sb.at sa (.inRegion sops (si :: srest) :: skk) :: scs)) w)
 (hM:MS K Ks P' P g S R (G (Frame.enter P' f args .normal) (sb.at sa (.inRegion sops (si :: srest) :: skk) :: scs)) w w') (hA:AR K.C R args args') (hf:K.C f) (hbx:∀b c,R b c→¬ Bx c) (hb:BadK (sb.at sa (.inRegion sops (si :: srest) :: skk) :: scs))
 {gs:Array Goroutine} {sl:Option (Nat×Nat)} {t:Trace} {m:Nat} {qq:Nat→Nat} (hR:RMJ P S Bx ch z ok Q j gs (G (Frame.enter P f args' .normal) (bf.at aa (.inRegion ops (i :: rest) :: kk) :: cs)) w' t m qq) :
 ∃(N:Nat) (gs1:Array Goroutine) (w1':World) (sl1:Option (Nat×Nat)) (t1:Trace) (v v':Value) (w1:World) (R1:Nat→Nat→Prop) (m1:Nat) (qq1:Nat→Nat),runNT P N (crowd gs w' sl) t=(.next (crowd gs1 w1' sl1),t1) ∧
  RMJ P S Bx ch z ok Q j gs1 (G (bf.at (aa.put ((ops[i]?).bind (·.dst)) v') (.inRegion ops rest :: kk)) cs) w1' t1 m1 qq1 ∧
  yD P' (G (Frame.enter P' f args .normal) (sb.at sa (.inRegion sops (si :: srest) :: skk) :: scs)) w (G (sb.at (sa.put ((sops[si]?).bind (·.dst)) v) (.inRegion sops srest :: skk)) scs) w1 ∧
  LT P' true Fin (G (sb.at (sa.put ((sops[si]?).bind (·.dst)) v) (.inRegion sops srest :: skk)) scs) w1∧MS K Ks P' P g S R1 (G (sb.at (sa.put ((sops[si]?).bind (·.dst)) v) (.inRegion sops srest :: skk)) scs) w1 w1' ∧
  VR K.C R1 v v'∧Ext0 K R R1 w w' w1 w1'∧∀b c,R1 b c→¬ Bx c:=by
 have hG:GR K P' P ⟨_,bf.at aa (.inRegion ops (i :: rest) :: kk) :: cs,hb⟩ R (G (Frame.enter P' f args .normal) (sb.at sa (.inRegion sops (si :: srest) :: skk) :: scs)) (G (Frame.enter P f args' .normal) (bf.at aa (.inRegion ops (i :: rest) :: kk) :: cs)):=.mk (FR.enter Z hf (fun h=>by have:=hSp f h;rw [hcf] at this;cases this) hA) (.base rfl)
 obtain ⟨N,R1,q1,w1,gs1,a1,w1',sl1,t1,m1,qq1,r1,hl,hT1,hd,hG1,hM1,hR1,hX,hbx1⟩:=kid_all Z Zs hC hSp hT R gs _ w' sl t m qq hG hM hR hbx ⟨NFr.enter hC hcf (by rw [hFf];intro t ht;cases ht),⟨[],rfl,fun _ h=>by cases h⟩,rfl,rfl,.inl rfl⟩
 obtain ⟨l1,l2,l3⟩:=hl
 cases hG1 with
 | @mk qa a' kq ka ha hkr =>
   simp only at l1 l2 l3
   subst l3
   obtain ⟨rfl⟩:ka=bf.at aa (.inRegion ops (i :: rest) :: kk) :: cs:=by
    cases hkr with
    | base _=>rfl
    | over h=>exact absurd h.deeper (Nat.lt_irrefl _)
   obtain ⟨v,fn,e1,e2,hB,hTv,hSv⟩:=qdL Zs hT1 hM1.self hscs l1 l2
   rw [Frame.finish_at] at hB hTv hSv
   have hback:Goes P false AtRel (fun w w' es=>w.heap.size≤w'.heap.size∧zL Bx w w'∧∀e∈es,EvL (zA S) w'.heap.size e∧∀y,(MemAct.ofEvent e).touch? = some y→Yv Bx y.loc→y.write=false)
    (fun a' w'=>(∃d,w'=w1'.at d)∧∃v',VR K.C R1 v v'∧a'=G (bf.at (aa.put ((ops[i]?).bind (·.dst)) v') (.inRegion ops rest :: kk)) cs) 1 { frame:=a',callers:=bf.at aa (.inRegion ops (i :: rest) :: kk) :: cs,status:=.running,dying:=none } w1':=by
    refine Goes.step rfl fun w2 hr=>?_
    obtain ⟨d,rfl⟩:=hr
    have hdf:=ha.defers
    obtain ⟨Fn,f1,f2,hi⟩:=ha.std
    have hfd:a'.defers=[]:=by
     rw [l2] at hdf
     revert hdf
     generalize a'.defers=ds
     intro hdf
     cases hdf;rfl
    have hmd:a'.mode=.returning:=by
     rcases ha.mode with ⟨h,_⟩ | ⟨_,h⟩
     ·rw [l1] at h;cases h
     ·exact h
    have hfn:Fn=fn:=by rw [e1] at f1;cases f1;rfl
    subst hfn
    have hwr:WR (K.at w1.drawn) R1 (w1.tp (fun n z=>w1'.tape (d+(n - w1.drawn)) z)) (w1'.at d):=W0.wr (⟨hM1.w0.fn,hM1.w0.inj,hM1.w0.obj,hM1.w0.fz,hM1.w0.glob,hM1.w0.big,hM1.w0.big'⟩:W0 K R1 (w1.tp (fun n z=>w1'.tape (d+(n - w1.drawn)) z)) (w1'.at d)) _ fun j z _=>by
     show w1'.tape (d+j) z=w1'.tape (d+(w1.drawn+j - w1.drawn)) z
     rw [Nat.add_sub_cancel_left]
    obtain ⟨R2,v',w2',h1,h2,h3,h4,h5,_⟩:=(qg.results (K:=K.at w1.drawn) (P':=P') (P:=P) Z.toSame Fn ha.tmps _ _ hwr).1 v _ (e2 (fun n z=>w1'.tape (d+(n - w1.drawn)) z)) (Nat.le_refl _)
    obtain rfl:w2'=w1'.at d:=by
     rcases Still.results Fn a'.tmps P (w1'.at d) with ⟨_,e⟩ | ⟨_,e⟩
     ·rw [h1] at e;cases e;rfl
     ·rw [h1] at e;cases e
    have hR2:∀b c,R2 b c→R1 b c:=fun b c hr=>by
     rcases h3.new b c hr with h | ⟨_,h⟩
     ·exact h
     ·obtain ⟨_,o',_,h6,_⟩:=h2.obj b c hr
      have:=(Array.getElem?_eq_some_iff.1 h6).1
      exact absurd h (Nat.not_le.2 this)
    obtain ⟨fn0,ts,td,ds,mode,kind,ro⟩:=a'
    have hkd:=ha.kind'
    have hfe:=ha.fn
    simp only at hfd hmd hkd hfe h1 h4
    subst hfd hmd hkd
    have f2':P.funcs[fn0]? = some Fn:=by rw [hfe];exact f2
    have hfin:(bf.at aa (.inRegion ops (i :: rest) :: kk)).finish v'=bf.at (aa.put ((ops[i]?).bind (·.dst)) v') (.inRegion ops rest :: kk):=Frame.finish_at ..
    have hst:stepG P false { frame:={ fn:=fn0,tmps:=ts,todo:=td,defers:=[],mode:=.returning,kind:=.normal,roundOf:=ro },callers:=bf.at aa (.inRegion ops (i :: rest) :: kk) :: cs,status:=.running,dying:=none } (w1'.at d)
     = .go (G (bf.at (aa.put ((ops[i]?).bind (·.dst)) v') (.inRegion ops rest :: kk)) cs) (w1'.at d) (seen P fn0 ((Go.results Fn ts).events P (w1'.at d) #[])):=by
     unfold stepG
     dsimp only
     unfold unwind
     simp only [f2',Sem.runT_eq,h1,doReturn]
     rw [hfin]
     simp [GStep.after,G]
    rw [hst,goes_go]
    refine ⟨⟨Nat.le_refl _,fun _ _=>rfl,fun e he=>⟨qaS (h4 e (mem_seen he)) (fun b c hr=>hM1.shun b c (hR2 b c hr)) (fun b c hr=>?_),evR_box (h4 e (mem_seen he)) fun b c hr=>hbx1 b c (hR2 b c hr)⟩⟩,fun w3 hr3=>?_⟩
    ·obtain ⟨_,o',_,h6,_⟩:=h2.obj b c hr
     exact (Array.getElem?_eq_some_iff.1 h6).1
    ·obtain ⟨d',rfl⟩:=hr3
     exact ⟨⟨d',rfl⟩,v',VR.mono hR2 h5,rfl⟩
   obtain ⟨N2,gs2,a2,w2,sl2,t2,m2,qq2,k1,⟨⟨d,rfl⟩,v',k3,rfl⟩,k2⟩:=RMJ.walk (fun _ _ _ h=>h) _ 1 gs1 _ w1' sl1 t1 m1 qq1 (Nat.le_refl _) hR1 hback
   refine ⟨N+N2,gs2,w1'.at d,sl2,t2,v,v',w1,R1,m2,qq2,qO r1 k1,k2,?_,hTv,⟨⟨hM1.w0.fn,hM1.w0.inj,hM1.w0.obj,hM1.w0.fz,hM1.w0.glob,hM1.w0.big,hM1.w0.big'⟩,hM1.nd,hSv,hM1.glob,hM1.shun,hM1.low,hM1.keep⟩,k3,⟨hX.le,hX.new,hX.size,hX.size',hX.stay,hX.tp',hX.os',hX.out',hX.held⟩,hbx1⟩
   obtain ⟨tt,x,y,z,z1,z2,z3⟩:=hB
   have hBd:=hd.trans (.step tt z1 z2 z3)
   exact hBd.below1 fun e=>by
    have:=congrArg (fun q:Goroutine=>q.callers.length) e
    simp [G] at this
theorem MS.other {S S':Nat→Prop} {R:Nat→Nat→Prop} {q:Goroutine} {w w' w2:World} (h:MS K Ks P' P g S R q w w') (hk:∀b c,R b c→w2.heap[c]? = w'.heap[c]?) (hsz:w'.heap.size≤w2.heap.size) (hsh:∀b c,R b c→¬ S' c) (hlow:∀c,S' c→c < w2.heap.size):MS K Ks P' P g S' R q w w2:=by
 refine ⟨⟨h.w0.fn,h.w0.inj,fun b c hbc=>?_,h.w0.fz,h.w0.glob,h.w0.big,Nat.le_trans h.w0.big' hsz⟩,h.nd,h.self,h.glob,hsh,hlow,fun n hn=>?_⟩
 ·obtain ⟨o,o',h1,h2,h3⟩:=h.w0.obj b c hbc
  exact ⟨o,o',h1,(hk b c hbc).trans h2,h3⟩
 ·obtain ⟨h1,h2,h3⟩:=h.keep n hn
  exact ⟨h1,h2,(hk n n h1).trans h3⟩
end
end Go.Sim
end
namespace Go.Proofs.YtjkenojgabamiaaGreatDoor
open Go Go.ChangeShapes
section
variable {H:Type} {enc:TypeId×Value→H} {P:Program} {w w':World}
theorem qev (hh:∀k,k < w.heap.size→w'.heap[k]? = w.heap[k]?) {p:MemPlace} (hp:p.block < w.heap.size):w.sameAt w' p:=by
 cases p with
 | cell b o =>
   have:=hh b hp
   show w'.cell? ⟨b,o,none⟩=w.cell? ⟨b,o,none⟩
   unfold World.cell?
   simp only [this]
 | map b=>exact hh b hp
theorem ZJ {T:TypeId→Prop} (K:Kids P T) (hz:∀t e,T t→P.underlying t=some (.slice e)→0 < P.cellsOf e) (hh:∀k,k < w.heap.size→w'.heap[k]? = w.heap[k]?):∀{ts:List TypeId} {vs:List Value} {ds:List (DataW H)} {ps:List MemPlace},
 (∀t∈ts,T t)→DataW.TrodAll enc P w 0 (fun _=>true) true ts vs ds ps→DataW.TrodAll enc P w' 0 (fun b=>decide (b < w.heap.size)) true ts vs ds ps
 | [],_,_,_,_,h=>by
   obtain ⟨rfl,rfl,rfl⟩:=trodAll_nil h
   rfl
 | t :: ts,_,_,_,hT,h=>by
   obtain ⟨v,vs1,d,ds1,a,b,rfl,rfl,rfl,⟨n,h1⟩,h2⟩:=trodAll_cons h
   refine ⟨a,b,⟨n,?_⟩,ZJ K hz hh (fun u hu=>hT u (List.mem_cons_of_mem _ hu)) h2,rfl⟩
   have hl:=fun p hp=>DataW.trod_lt n _ _ _ h1 p hp
   have h3:=DataW.trod_respare (spare':=fun b=>decide (b < w.heap.size)) K hz n _ _ _ (hT t List.mem_cons_self) h1 (fun p hp=>by simpa using hl p hp)
   exact DataW.trod_carry n _ _ _ h3 fun p hp=>qev hh (hl p hp)
end
end Go.Proofs.YtjkenojgabamiaaGreatDoor
section
namespace Go.Load
def btw (n lo hi:Int):Bool:=decide (lo≤n) && decide (n≤hi)
def lowT (a b:Int):Int:=a / (Int.gcd a b:Int)
def lowB (a b:Int):Int:=b / (Int.gcd a b:Int)
def low (a b:Int):Int×Int:=(lowT a b,lowB a b)
def above (x y:Int×Int):Bool:=decide (y.1 * x.2 < x.1 * y.2)
end Go.Load
end
namespace Go.Load
open Go Go.RowKit
theorem lt_of_cell {W:World} {p:Addr} {v:Value} (hc:W.cell? p=some v):p.block < W.heap.size:=by
 rcases Nat.lt_or_ge p.block W.heap.size with h | h
 ·exact h
 ·unfold World.cell? at hc
  rw [Array.getElem?_eq_none h] at hc
  cases hc
theorem qb {W w1:World} (p:Addr) (h:Below W.heap.size W w1) {v:Value} (hc:W.cell? p=some v):w1.cell? p=some v:=(h.cell (lt_of_cell hc)).trans hc
theorem qd {W w1:World} (p:Addr) (h:Below W.heap.size W w1) {v:Value} (hc:W.cell? p=some v) (hf:W.frozen? p=false):w1.frozen? p=false:=(h.frozen (lt_of_cell hc)).trans hf
theorem Below.call {B:Nat} {w W w1:World} (h:Below B w W) (k:Below W.heap.size W w1) (hB:B≤w.heap.size):Below B w w1:=h.trans (k.mono (Nat.le_trans hB h.size))
theorem bcl {w w1 w2:World} (h:Below w.heap.size w w1) (hB:Below w1.heap.size w1 w2):Below w.heap.size w w2:=Below.call h hB (Nat.le_refl _)
theorem qB {w:World} {p q:Addr} {v:Value} (h:(w.cell? q).isSome=true):((w.setCell p v).cell? q).isSome=true:=by
 by_cases e:p=q
 ·subst e;rw [World.cell?_setCell_same' _ _ _ h];rfl
 ·rw [World.cell?_setCell_other _ _ _ _ e];exact h
theorem qp {w:World} {p:Addr} {v:Value} (h:(w.cell? p).isSome=true):(w.setCell p v).cell? p=some v:=World.cell?_setCell_same' _ _ _ h
theorem qx {w:World} {p q:Addr} {u v:Value} (e:p≠q) (h:w.cell? q=some u):(w.setCell p v).cell? q=some u:=(World.cell?_setCell_other _ _ _ _ e).trans h
theorem put2 {w1:World} {b:Nat} {u0 u1:Value} (v0 v1:Value) (c0:w1.cell? ⟨b,0,none⟩=some u0) (c1:w1.cell? ⟨b,1,none⟩=some u1) :
 ((w1.setCell ⟨b,0,none⟩ v0).setCell ⟨b,1,none⟩ v1).cell? ⟨b,0,none⟩=some v0∧((w1.setCell ⟨b,0,none⟩ v0).setCell ⟨b,1,none⟩ v1).cell? ⟨b,1,none⟩=some v1:=by
 have h1:(w1.setCell ⟨b,0,none⟩ v0).cell? ⟨b,1,none⟩=some u1:=(World.cell?_setCell_other _ _ _ _ (by simp)).trans c1
 exact ⟨(World.cell?_setCell_other _ _ _ _ (by simp)).trans (World.cell?_setCell_same' _ _ _ (by rw [c0];rfl)),World.cell?_setCell_same' _ _ _ (by rw [h1];rfl)⟩
theorem qz {w:World} {a:Addr} {v:Value} (h:w.cell? a=some v):(w.cell? a).isSome=true:=by rw [h];rfl
theorem zH {W w1:World} (hb:Below W.heap.size W w1):(∀b o,b < W.heap.size→w1.cell? ⟨b,o,none⟩=W.cell? ⟨b,o,none⟩)∧(∀b o,b < W.heap.size→w1.frozen? ⟨b,o,none⟩=W.frozen? ⟨b,o,none⟩) :=
 ⟨fun b o h=>hb.cell (p:=⟨b,o,none⟩) h,fun b o h=>hb.frozen (p:=⟨b,o,none⟩) h⟩
theorem yA {W:World} {o:Obj} {p:Addr} {v:Value} (h:W.cell? p=some v):(W.alloc o).cell? p=some v:=qb _ ((Below.refl _ W).alloc (Nat.le_refl _) _) h
theorem load_2 {P:Program} {ty:TypeId} {w:World} {b o:Nat} {v0 v1:Value} (hA:∀w,(isAgg ty).run P w=.ok true w) (hS:∀w,(Go.sizeOf ty).run P w=.ok 2 w) (k0:w.cell? ⟨b,o,none⟩=some v0) (k1:w.cell? ⟨b,o+1,none⟩=some v1) :
 (loadVar ty ⟨b,o,none⟩).run P w=.ok (.agg #[v0,v1]) w:=by
 unfold loadVar
 simp only [Sem.run_bind,hA,hS,Result.andThen_ok,if_true,loadCells,loadCellsFrom,run_load,Addr.add,k0,k1,Sem.run_pure,Option.isSome_none,Bool.false_eq_true,if_false,Nat.zero_add,Nat.add_zero,Nat.one_ne_zero]
 rfl
theorem qdO {P:Program} {ty:TypeId} {w:World} {b o:Nat} {v0 v1 v2 v3 v4:Value} (hA:∀w,(isAgg ty).run P w=.ok true w) (hS:∀w,(Go.sizeOf ty).run P w=.ok 5 w) (k0:w.cell? ⟨b,o,none⟩=some v0) (k1:w.cell? ⟨b,o+1,none⟩=some v1)
 (k2:w.cell? ⟨b,o+2,none⟩=some v2) (k3:w.cell? ⟨b,o+3,none⟩=some v3) (k4:w.cell? ⟨b,o+4,none⟩=some v4) :
 (loadVar ty ⟨b,o,none⟩).run P w=.ok (.agg #[v0,v1,v2,v3,v4]) w:=by
 unfold loadVar
 simp only [Sem.run_bind,hA,hS,Result.andThen_ok,if_true,loadCells,loadCellsFrom,run_load,Addr.add,k0,k1,k2,k3,k4,Sem.run_pure,Option.isSome_none,Bool.false_eq_true,if_false,Nat.zero_add,Nat.add_zero,Nat.one_ne_zero,Nat.reduceAdd,show ¬ (2:Nat)=0 by decide,show ¬ (3:Nat)=0 by decide,show ¬ (4:Nat)=0 by decide]
 rfl
theorem Qu {P:Program} {fn:Func} {ts:Array Value} {p:Tmp} {ty:TypeId} {w:World} {a:Addr} {v:Value} (h:fn.results=#[.cell p ty]) (hp:ts.getD p undef=.pointer (some a)) (hl:(loadVar ty a).run P w=.ok v w):(results fn ts).run P w=.ok v w:=by
 unfold results
 rw [h]
 simp only [List.mapM_toArray,List.mapM_cons,List.mapM_nil,hp,asAddr,bind_assoc,pure_bind,map_eq_pure_bind,Sem.run_bind,hl,Result.andThen_ok,Sem.run_pure]
 rfl
theorem jB {P:Program} {fn:Func} {ts:Array Value} {p q:Tmp} {ty:TypeId} {w:World} {a:Addr} {v u:Value} (h:fn.results=#[.cell p ty,.tmp q]) (hp:ts.getD p undef=.pointer (some a)) (hq:ts.getD q undef=u) (hl:(loadVar ty a).run P w=.ok v w):(results fn ts).run P w=.ok (.tuple #[v,u]) w:=by
 unfold results
 rw [h]
 simp only [List.mapM_toArray,List.mapM_cons,List.mapM_nil,hp,hq,asAddr,bind_assoc,pure_bind,map_eq_pure_bind,Sem.run_bind,hl,Result.andThen_ok,Sem.run_pure]
 rfl
theorem ret_ct2 {P:Program} {fn:Func} {R:Ending→World→Prop} {ts:Array Value} {p q:Tmp} {ty:TypeId} {w1:World} {b:Nat} {u0 u1 v0 v1 a:Value} (h:fn.results=#[.cell p ty,.tmp q]) (hA:∀w,(isAgg ty).run P w=.ok true w) (hS:∀w,(Go.sizeOf ty).run P w=.ok 2 w)
 (hp:ts.getD p undef=.pointer (some ⟨b,0,none⟩)) (hq:ts.getD q undef=a) (c0:w1.cell? ⟨b,0,none⟩=some u0) (c1:w1.cell? ⟨b,1,none⟩=some u1) (hR:R (.returned (.tuple #[.agg #[v0,v1],a])) ((w1.setCell ⟨b,0,none⟩ v0).setCell ⟨b,1,none⟩ v1)) :
 bodyPost P fn R .ret ⟨ts,[]⟩ ((w1.setCell ⟨b,0,none⟩ v0).setCell ⟨b,1,none⟩ v1) :=
 bodyPost_ret (jB h hp hq (load_2 hA hS (put2 v0 v1 c0 c1).1 (put2 v0 v1 c0 c1).2)) rfl hR
end Go.Load
