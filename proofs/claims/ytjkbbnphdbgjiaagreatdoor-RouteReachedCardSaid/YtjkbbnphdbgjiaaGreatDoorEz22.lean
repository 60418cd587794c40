/-
  Lemmas about the program and the machine (SimVal to SimMap), upon which the last text of this claim rests; no condition.
-/
import Derived.Conc.Events
import Derived.Test.YtjkbbnphdbgjiaaGreatDoorE01
set_option linter.unusedSimpArgs false
set_option linter.unusedVariables false
namespace Go.Sim
open Go
def qW(R:Nat->Nat->Prop)(a a':Addr):Prop:=R a.block a'.block/\a'.off=a.off/\a'.spot=a.spot
def xY:Value->Bool
 | .bool _ | .int _ _ | .string _ | .nilFunc | .nilIface | .agg _ | .tuple _ | .pointer none | .func (.method _) _ _=>false
 | _=>true
inductive VR (C:FuncId->Prop) (R:Nat->Nat->Prop):Value->Value->Prop
 | bool (b:Bool):VR C R (.bool b) (.bool b)
 | int (k:IntKind) (n:Int):VR C R (.int k n) (.int k n)
 | string (s:ByteArray):VR C R (.string s) (.string s)
 | pnil:VR C R (.pointer none) (.pointer none)
 | ptr {a a':Addr}:qW R a a'->VR C R (.pointer (some a)) (.pointer (some a'))
 | snil (l c:Nat):VR C R (.slice none l c) (.slice none l c)
 | slice {a a':Addr} (l c:Nat):qW R a a'->VR C R (.slice (some a) l c) (.slice (some a') l c)
 | mnil:VR C R (.map none) (.map none)
 | map {r r':Nat}:R r r'->VR C R (.map (some r)) (.map (some r'))
 | func (f:FuncId) {xs xs' ys ys':Array Value}:C f->xs.size=xs'.size->(∀(i:Nat) (x x':Value),xs[i]? = some x->xs'[i]? = some x'->VR C R x x') ->
    ys.size=ys'.size->(∀(i:Nat) (x x':Value),ys[i]? = some x->ys'[i]? = some x'->VR C R x x')->VR C R (.func (.func f) xs ys) (.func (.func f) xs' ys')
 | yld {l l':Nat}:R l l'->VR C R (.func (.yield l) #[] #[]) (.func (.yield l') #[] #[])
 | nilFunc:VR C R .nilFunc .nilFunc
 | iface (t:TypeId) {v v':Value}:VR C R v v'->VR C R (.iface t v) (.iface t v')
 | nilIface:VR C R .nilIface .nilIface
 | agg {xs xs':Array Value}:xs.size=xs'.size->(∀(i:Nat) (x x':Value),xs[i]? = some x->xs'[i]? = some x'->VR C R x x')->VR C R (.agg xs) (.agg xs')
 | tuple {xs xs':Array Value}:xs.size=xs'.size->(∀(i:Nat) (x x':Value),xs[i]? = some x->xs'[i]? = some x'->VR C R x x')->VR C R (.tuple xs) (.tuple xs')
 | junk {v':Value}:xY v'=true->VR C R (.tuple #[]) v'
 | cnil:VR C R (.chan none) (.chan none)
 | meth (n:String) (xs ys:Array Value):VR C R (.func (.method "") #[.nilIface] #[]) (.func (.method n) xs ys)
 | zcap (a:Addr):VR C R (.slice (some a) 0 0) (.slice (some a) 0 0)
structure AR (C:FuncId->Prop) (R:Nat->Nat->Prop) (xs xs':Array Value):Prop where
 size:xs.size=xs'.size
 el:∀(i:Nat) (x x':Value),xs[i]? = some x->xs'[i]? = some x'->VR C R x x'
section
variable {C:FuncId->Prop} {R R1:Nat->Nat->Prop}
theorem qW.mono(h:∀b c,R b c->R1 b c){a a':Addr}(x:qW R a a'):qW R1 a a':=⟨h _ _ x.1,x.2⟩
theorem qW.add{a a':Addr}(x:qW R a a')(n:Nat):qW R (a.add n) (a'.add n):=by
 obtain⟨h1,h2,h3⟩:=x;unfold Addr.add;split
 ·exact⟨h1,h2,h3⟩
 ·exact⟨h1,by simp[h2],rfl⟩
theorem qW.none{b b' o:Nat}(h:R b b'):qW R ⟨b,o,.none⟩ ⟨b',o,.none⟩:=⟨h,rfl,rfl⟩
theorem VR.mono(h:∀b c,R b c->R1 b c){v v':Value}(x:VR C R v v'):VR C R1 v v':=by
 induction x with
 | bool b=>exact .bool b
 | int k n=>exact .int k n
 | string s=>exact .string s
 | pnil=>exact .pnil
 | ptr a=>exact .ptr (a.mono h)
 | snil l c=>exact .snil l c
 | slice l c a=>exact .slice l c (a.mono h)
 | mnil=>exact .mnil
 | map r=>exact .map (h _ _ r)
 | func f hc s1 _ s2 _ i1 i2=>exact .func f hc s1 i1 s2 i2
 | yld r=>exact .yld (h _ _ r)
 | nilFunc=>exact .nilFunc
 | iface t _ i=>exact .iface t i
 | nilIface=>exact .nilIface
 | agg s _ i=>exact .agg s i
 | tuple s _ i=>exact .tuple s i
 | junk h=>exact .junk h
 | cnil=>exact .cnil
 | zcap a=>exact .zcap a
 | meth n a b=>exact .meth n a b
theorem AR.mono(h:∀b c,R b c->R1 b c){xs xs':Array Value}(x:AR C R xs xs'):AR C R1 xs xs' :=
 ⟨x.size,fun i y y' a b=>(x.el i y y' a b).mono h⟩
theorem AR.agg{xs xs':Array Value}(h:AR C R xs xs'):VR C R (.agg xs) (.agg xs'):=.agg h.size h.el
theorem AR.tuple{xs xs':Array Value}(h:AR C R xs xs'):VR C R (.tuple xs) (.tuple xs'):=.tuple h.size h.el
theorem AR.func{xs xs' ys ys':Array Value}{f:FuncId}(hf:C f)(h:AR C R xs xs')(k:AR C R ys ys'):VR C R (.func (.func f) xs ys) (.func (.func f) xs' ys'):=.func f hf h.size h.el k.size k.el
theorem AR.nil:AR C R #[] #[]:=⟨rfl,fun i x x' a=>by simp at a⟩
theorem VR.undef:VR C R undef undef:=AR.tuple AR.nil
theorem AR.get{xs xs':Array Value}(h:AR C R xs xs'){i:Nat}{x:Value}(e:xs[i]? = some x):∃x',xs'[i]? = some x'/\VR C R x x':=by
 have hi:i<xs.size:=(qy e).1;have hi':i<xs'.size:=h.size▸hi;exact⟨xs'[i],by simp[hi'],h.el i x _ e (by simp[hi'])⟩
theorem AR.get_none{xs xs':Array Value}(h:AR C R xs xs'){i:Nat}(e:xs[i]? = none):xs'[i]? = none:=by
 rw[Array.getElem?_eq_none_iff]at *
 have:=h.size;omega
theorem AR.getD{xs xs':Array Value}(h:AR C R xs xs')(i:Nat){d d':Value}(hd:VR C R d d'):VR C R (xs.getD i d) (xs'.getD i d'):=by
 rw[Array.getD_eq_getD_getElem?,Array.getD_eq_getD_getElem?]
 cases e:xs[i]? with
 | none=>rw[h.get_none e];exact hd
 | some x=>obtain⟨x',e',hx⟩:=h.get e;rw[e'];exact hx
theorem AR.push{xs xs':Array Value}(h:AR C R xs xs'){x x':Value}(hx:VR C R x x'):AR C R (xs.push x) (xs'.push x'):=by
 refine⟨by simp[h.size],fun i y y' a b=>?_⟩;rw[Array.getElem?_push]at a b;rw[h.size]at a;split at a
 ·cases a;rw[if_pos ‹_›]at b;cases b;exact hx
 ·rw[if_neg ‹_›]at b;exact h.el i y y' a b
theorem AR.set{xs xs':Array Value}(h:AR C R xs xs')(k:Nat){x x':Value}(hx:VR C R x x'):AR C R (xs.setIfInBounds k x) (xs'.setIfInBounds k x'):=by
 refine⟨by simp[h.size],fun i y y' a b=>?_⟩;rw[Array.getElem?_setIfInBounds]at a b;rw[h.size]at a;split at a
 ·rw[if_pos ‹_›]at b;split at a
  ·rw[if_pos ‹_›]at b;cases a;cases b;exact hx
  ·cases a
 ·rw[if_neg ‹_›]at b;exact h.el i y y' a b
theorem AR.append{xs xs' ys ys':Array Value}(h:AR C R xs xs')(k:AR C R ys ys'):AR C R (xs++ys) (xs'++ys'):=by
 refine⟨by simp[h.size,k.size],fun i y y' a b=>?_⟩;rw[Array.getElem?_append]at a b;rw[h.size]at a;split at a
 ·rw[if_pos ‹_›]at b;exact h.el i y y' a b
 ·rw[if_neg ‹_›]at b;exact k.el _ y y' a b
theorem AR.extract{xs xs':Array Value}(h:AR C R xs xs')(i j:Nat):AR C R (xs.extract i j) (xs'.extract i j):=by
 refine⟨by simp[h.size],fun n y y' a b=>?_⟩;rw[Array.getElem?_extract]at a b;rw[h.size]at a;split at a
 ·rw[if_pos ‹_›]at b;exact h.el _ y y' a b
 ·cases a
theorem AR.replicate(n:Nat){v v':Value}(h:VR C R v v'):AR C R (Array.replicate n v) (Array.replicate n v'):=by
 refine⟨by simp,fun i y y' a b=>?_⟩;rw[Array.getElem?_replicate]at a b;split at a
 ·rw[if_pos ‹_›]at b;cases a;cases b;exact h
 ·cases a
theorem AR.one{v v':Value}(h:VR C R v v'):AR C R #[v] #[v']:=AR.nil.push h
theorem AR.map{α:Type}(xs:Array α){f g:α->Value}(h:∀x∈xs,VR C R (f x) (g x)):AR C R (xs.map f) (xs.map g):=by
 refine⟨by simp,fun i y y' a b=>?_⟩;rw[Array.getElem?_map]at a b
 cases e:xs[i]? with
 | none=>rw[e]at a;cases a
 | some x =>
   rw[e]at a b;cases a;cases b;exact h x (Array.mem_of_getElem? e)
theorem qdd{v:Value}(h:xY v=true):v.cells=#[v]:=by
 cases v<;>first|rfl|(simp[xY]at h;done)
theorem VR.cells{v v':Value}(h:VR C R v v'):AR C R v.cells v'.cells:=by
 cases h with
 | junk h=>rw[qdd h];exact AR.one (.junk h)
 | zcap a=>exact AR.one (.zcap a)
 | meth n a b=>exact AR.one (.meth n a b)
 | _ =>
   simp only[Value.cells]
   first
   | exact⟨by assumption,by assumption⟩
   | (refine AR.one ?_;first|(constructor<;>assumption)|constructor)
def Value.scalar:Value->Bool
 | .bool _ | .int _ _ | .string _ | .nilIface | .nilFunc=>true
 | _=>false
theorem VR.scalar{v v':Value}(h:VR C R v v')(hs:Value.scalar v=true):v'=v:=by
 cases h<;>first|rfl|simp[Value.scalar]at hs
theorem VR.agg_inv{xs:Array Value}{v':Value}(h:VR C R (.agg xs) v'):∃xs',v'=.agg xs'/\AR C R xs xs':=by cases h with|agg s e=>exact⟨_,rfl,s,e⟩
end
def zO:Nat->Value->Bool
 | 0,_=>false
 | _+1,.bool _|_+1,.int _ _|_+1,.string _|_+1,.pointer none|_+1,.slice none _ _|_+1,.map none|_+1,.chan none|_+1,.nilFunc|_+1,.nilIface=>true
 | n+1,.iface _ v=>zO n v
 | n+1,.agg xs=>xs.all (zO n)
 | n+1,.tuple xs=>xs.size != 0&&xs.all (zO n)
 | _+1,_=>false
theorem VR.plain{C:FuncId->Prop}{R:Nat->Nat->Prop}:∀(n:Nat) (v:Value),zO n v=true->VR C R v v
 | 0,v,h=>by simp[zO]at h
 | n+1,v,h=>by
   have key:∀xs:Array Value,xs.all (zO n)=true->AR C R xs xs:=fun xs hx=>by
    refine⟨rfl,fun i x x' a b=>?_⟩;rw[a]at b;cases b;rw[Array.all_eq_true']at hx;exact VR.plain n x (hx x (Array.mem_of_getElem? a))
   match v,h with
   | .bool _,_=>exact .bool _
   | .int _ _,_=>exact .int _ _
   | .string _,_=>exact .string _
   | .pointer none,_=>exact .pnil
   | .slice none _ _,_=>exact .snil _ _
   | .map none,_=>exact .mnil
   | .chan none,_=>exact .cnil
   | .nilFunc,_=>exact .nilFunc
   | .nilIface,_=>exact .nilIface
   | .iface _ v,h=>exact .iface _ (VR.plain n v h)
   | .agg xs,h=>exact(key xs h).agg
   | .tuple xs,h=>exact(key xs (by simp only[zO,Bool.and_eq_true]at h;exact h.2)).tuple
   | .pointer (some _),h=>simp[zO]at h
   | .slice (some _) _ _,h=>simp[zO]at h
   | .map (some _),h=>simp[zO]at h
   | .chan (some _),h=>simp[zO]at h
   | .complex _ _ _,h=>simp[zO]at h
   | .float _ _,h=>simp[zO]at h
   | .func _ _ _,h=>simp[zO]at h
end Go.Sim
namespace Go.Sim
open Go Go.Instr
def _root_.Go.World.tp(w:World)(t:Nat->Question->Nat):World:={ w with tape:=t }
def _root_.Go.Result.tp{α:Type}(t:Nat->Question->Nat):Result α->Result α
 | .ok a w=>.ok a (w.tp t)
 | .halt h w=>.halt h (w.tp t)
def _root_.Go.Result.w{α:Type}:Result α->World
 | .ok _ w=>w
 | .halt _ w=>w
theorem qdV{α:Type}(x:Ask α):∀w:World,w.drawn<=(w.ask x).2.drawn:=by
 induction x with
 | done a=>intro w;exact ql
 | ask what range k ih =>
   intro w;simp only[World.ask];split
   ·exact ih 0 w
   ·exact Nat.le_trans (by simp) (ih _ { w with drawn:=w.drawn+1 })
theorem qaE(w:World)(c:Sys):w.drawn<=(w.sys c).2.drawn:=by
 have h:=qdV (Kernel.perform c w.os) w;unfold World.sys;split
 ·exact ql
 ·rename_i r os w1 _ e;rw[e]at h;exact h
theorem yY(w:World)(a:Addr)(n:Nat):(w.freeze a n).drawn=w.drawn:=by
 unfold World.freeze;split<;>rfl
theorem xR{p:Program}{w w1:World}{a:Addr}{v:Value}{m:Bool}{l:List Addr}(h:w.farStore p a v m=.ok (w1,l)):w1.drawn=w.drawn/\w1.tape=w.tape:=by
 unfold World.farStore at h;split at h
 ·rename_i at_ u _
  cases e:w.viewStore p at_ u a v m with
  | error x=>rw[e]at h;cases h
  | ok r =>
    rw[e]at h;simp only[Except.ok.injEq]at h;subst h;unfold World.viewStore at e;(repeat' (first|(split at e)|(simp only[bind,Except.bind,pure,Except.pure]at e)));(all_goals first|(cases e;done)|skip);all_goals(cases e;exact⟨rfl,rfl⟩)
 ·cases h
theorem zC{α:Type}(P:Program)(s:Sem α):∀{w w1:World} {a:α},s.run P w=.ok a w1->w.drawn<=w1.drawn:=by
 induction s with
 | pure a=>intro w w1 a h;cases h;exact ql
 | load m ad k ih =>
   intro w w1 a h;simp only[Sem.run]at h;split at h
   ·exact ih _ h
   ·split at h
    ·exact ih _ h
    ·cases h
 | store m ad v k ih =>
   intro w w1 a h;have key:∀{w2:World},w2.drawn=w.drawn->k.run P w2=.ok a w1->w.drawn<=w1.drawn:=fun e h=>e▸ih h
   cases v<;>simp only[Sem.run]at h<;>first
    | (cases h;done)
    | (split at h
       ·split at h
        ·cases h
        ·exact key (by simp[World.setCell]) h
       ·split at h
        ·rename_i e;exact key (xR e).1 h
        ·cases h)
 | new o k ih=>intro w w1 a h;exact ih _ (w:={ w with heap:=w.heap.push o }) h
 | shape r k ih=>intro w w1 a h;exact ih _ h
 | freeze ad n k ih=>intro w w1 a h;rw[<-yY w ad n];exact ih h
 | frozen ad k ih=>intro w w1 a h;exact ih _ h
 | getObj r k ih =>
   intro w w1 a h;simp only[Sem.run]at h;split at h
   ·cases h
   ·exact ih _ h
   ·cases h
 | setObj r o k ih =>
   intro w w1 a h;simp only[Sem.run]at h;split at h
   ·cases h
   ·exact ih (w:={ w with heap:=w.heap.setIfInBounds r o }) h
   ·cases h
 | choose q k ih =>
   intro w w1 a h;simp only[Sem.run]at h;split at h
   ·exact ih _ h
   ·have:=ih _ (w:={ w with drawn:=w.drawn+1 }) h;simp at this;omega
 | sys c k ih=>intro w w1 a h;exact Nat.le_trans (qaE w c) (ih _ h)
 | program k ih=>intro w w1 a h;exact ih _ h
 | mark m k ih=>intro w w1 a h;exact ih h
 | halt x=>intro w w1 a h;cases h
theorem Qe{α:Type}(P:Program)(s:Sem α):∀{w w1:World} {a:Halt},s.run P w=.halt a w1->w.drawn<=w1.drawn:=by
 induction s with
 | pure a=>intro w w1 a h;cases h
 | load m ad k ih =>
   intro w w1 a h;simp only[Sem.run]at h;split at h
   ·exact ih _ h
   ·split at h
    ·exact ih _ h
    ·cases h;exact ql
 | store m ad v k ih =>
   intro w w1 a h;have key:∀{w2:World},w2.drawn=w.drawn->k.run P w2=.halt a w1->w.drawn<=w1.drawn:=fun e h=>e▸ih h
   cases v<;>simp only[Sem.run]at h<;>first
    | (cases h;exact ql)
    | (split at h
       ·split at h
        ·cases h;exact ql
        ·exact key (by simp[World.setCell]) h
       ·split at h
        ·rename_i e;exact key (xR e).1 h
        ·cases h;exact ql)
 | new o k ih=>intro w w1 a h;exact ih _ (w:={ w with heap:=w.heap.push o }) h
 | shape r k ih=>intro w w1 a h;exact ih _ h
 | freeze ad n k ih=>intro w w1 a h;rw[<-yY w ad n];exact ih h
 | frozen ad k ih=>intro w w1 a h;exact ih _ h
 | getObj r k ih =>
   intro w w1 a h;simp only[Sem.run]at h;split at h
   ·cases h;exact ql
   ·exact ih _ h
   ·cases h;exact ql
 | setObj r o k ih =>
   intro w w1 a h;simp only[Sem.run]at h;split at h
   ·cases h;exact ql
   ·exact ih (w:={ w with heap:=w.heap.setIfInBounds r o }) h
   ·cases h;exact ql
 | choose q k ih =>
   intro w w1 a h;simp only[Sem.run]at h;split at h
   ·exact ih _ h
   ·have:=ih _ (w:={ w with drawn:=w.drawn+1 }) h;simp at this;omega
 | sys c k ih=>intro w w1 a h;exact Nat.le_trans (qaE w c) (ih _ h)
 | program k ih=>intro w w1 a h;exact ih _ h
 | mark m k ih=>intro w w1 a h;exact ih h
 | halt x=>intro w w1 a h;cases h;exact ql
def Agree(t u:Nat->Question->Nat)(m n:Nat):Prop:=∀i q,m<=i->i<n->u i q=t i q
theorem Agree.mono{t u:Nat->Question->Nat}{m n m' n':Nat}(h:Agree t u m n)(hm:m<=m')(hn:n'<=n):Agree t u m' n':=fun i q a b=>h i q (Nat.le_trans hm a) (Nat.lt_of_lt_of_le b hn)
theorem zH{α:Type}(P:Program)(s:Sem α)(w:World):w.drawn<=(s.run P w).w.drawn:=by
 cases e:s.run P w with
 | ok a x=>exact zC P s e
 | halt a x=>exact Qe P s e
def zD{α:Type}:Sem α->Prop
 | .pure _ | .halt _=>True
 | .load _ _ k=>∀v,zD (k v)
 | .store _ _ _ k | .freeze _ _ k | .setObj _ _ k | .mark _ k=>zD k
 | .new _ k=>∀v,zD (k v)
 | .shape _ k=>∀v,zD (k v)
 | .frozen _ k=>∀v,zD (k v)
 | .getObj _ k=>∀v,zD (k v)
 | .choose _ k=>∀v,zD (k v)
 | .sys _ _=>False
 | .program k=>∀v,zD (k v)
theorem qaL(p:Program)(w:World)(b:Addr)(ty:TypeId)(a:Addr)(v:Value)(m:Bool)(u:Nat->Question->Nat) :
 (w.tp u).viewStore p b ty a v m=(w.viewStore p b ty a v m).map fun r=>(r.1.tp u,r.2):=by
 have hs:(w.tp u).seen p b ty a m=w.seen p b ty a m:=rfl;unfold World.viewStore;rw[hs];simp only[bind,Except.bind,pure,Except.pure,Except.map];repeat' (first|rfl|split)
 all_goals first
  | rfl
  | (rename_i h1 h2;rw[h1]at h2;cases h2;rfl)
  | simp_all
theorem qbe(p:Program)(w:World)(a:Addr)(v:Value)(m:Bool)(u:Nat->Question->Nat) :
 (w.tp u).farStore p a v m=(w.farStore p a v m).map fun r=>(r.1.tp u,r.2):=by
 unfold World.farStore;have hh:(w.tp u).heap=w.heap:=rfl;rw[hh]
 cases e:w.heap[a.block]? with
 | none=>rfl
 | some o =>
   cases o<;>first
    | rfl
    | (dsimp only
       rw[qaL]
       cases w.viewStore p _ _ a v m<;>rfl)
theorem Ji{p:Program}{w w1:World}{a:Addr}{v:Value}{m:Bool}{l:List Addr}(h:w.farStore p a v m=.ok (w1,l)):w1.drawn=w.drawn/\w1.tape=w.tape:=xR h
theorem run_tp{α:Type}(P:Program)(s:Sem α)(t u:Nat->Question->Nat):zD s->∀(w:World),w.tape=t->Agree t u w.drawn (s.run P w).w.drawn->s.run P (w.tp u)=(s.run P w).tp u:=by
 induction s with
 | pure a=>intro _ w _ _;rfl
 | load m ad k ih =>
   intro hn w ht h;simp only[Sem.run]at h⊢;have e1:(w.tp u).cell? ad=w.cell? ad:=rfl;have e2:(w.tp u).farLoad P ad (m==Mode.atomic)=w.farLoad P ad (m==Mode.atomic):=rfl;rw[e1,e2]
   cases e:w.cell? ad with
   | some v=>rw[e]at h;exact ih _ (hn _) w ht h
   | none =>
     rw[e]at h;dsimp only at h⊢
     cases e2:w.farLoad P ad (m==Mode.atomic)with
     | error x=>rfl
     | ok r=>rw[e2]at h;exact ih _ (hn _) w ht h
 | store m ad v k ih =>
   intro hn w ht h
   have key:v.oneCell'=true->(Sem.store m ad v k).run P (w.tp u)=((Sem.store m ad v k).run P w).tp u:=by
    intro hv
    have e1:∀w:World,(Sem.store m ad v k).run P w=match w.cell? ad with
     | some _=>if w.frozen? ad then .halt (.unsupported (.unsafePointer "a write to bytes that a string shares")) w else k.run P (w.setCell ad v)
     | none=>match w.farStore P ad v (m==Mode.atomic)with
       | .ok (w,_)=>k.run P w
       | .error h=>.halt h w:=fun w=>by cases v<;>first|rfl|simp[Value.oneCell']at hv
    rw[e1]at h⊢;rw[e1,qbe];show(match w.cell? ad with|some _=>if w.frozen? ad then _ else k.run P ((w.setCell ad v).tp u)|none=>_)=_
    cases e:w.cell? ad with
    | some x =>
      rw[e]at h;dsimp only at h⊢;by_cases hf:w.frozen? ad=true
      ·rw[if_pos hf,if_pos hf];rfl
      ·rw[if_neg hf]at h;rw[if_neg hf,if_neg hf];exact ih hn (w.setCell ad v) ht h
    | none =>
      rw[e]at h;dsimp only at h⊢
      cases e2:w.farStore P ad v (m==Mode.atomic)with
      | error x=>rfl
      | ok r =>
        rw[e2]at h;obtain⟨w1,l⟩:=r;obtain⟨h1,h2⟩:=Ji e2;exact ih hn w1 (h2.trans ht) (h1▸h)
   cases v<;>first
    | exact key rfl
    | rfl
 | new o k ih=>intro hn w ht h;exact ih _ (hn _) { w with heap:=w.heap.push o } ht h
 | shape r k ih=>intro hn w ht h;exact ih _ (hn _) w ht h
 | freeze ad n k ih =>
   intro hn w ht h
   have e:(w.tp u).freeze ad n=(w.freeze ad n).tp u:=by
    unfold World.freeze;split<;>rfl
   simp only[Sem.run]at h⊢;rw[e];exact ih hn (w.freeze ad n) ((by unfold World.freeze;split<;>rfl:(w.freeze ad n).tape=w.tape).trans ht) (by rw[yY];exact h)
 | frozen ad k ih=>intro hn w ht h;exact ih _ (hn _) w ht h
 | getObj r k ih =>
   intro hn w ht h;simp only[Sem.run]at h⊢;have hh:(w.tp u).heap=w.heap:=rfl;rw[hh]
   cases e:w.heap[r]? with
   | none=>rfl
   | some o =>
     rw[e]at h
     cases o<;>first
      | rfl
      | exact ih _ (hn _) w ht h
 | setObj r o k ih =>
   intro hn w ht h;simp only[Sem.run]at h⊢;have hh:(w.tp u).heap=w.heap:=rfl;rw[hh]
   cases e:w.heap[r]? with
   | none=>rfl
   | some o' =>
     rw[e]at h
     cases o'<;>first
      | rfl
      | exact ih hn { w with heap:=w.heap.setIfInBounds r o } ht h
 | choose q k ih =>
   intro hn w ht h;simp only[Sem.run]at h⊢;split
   ·rename_i hq;rw[if_pos hq]at h;exact ih _ (hn _) w ht h
   ·rename_i hq;rw[if_neg hq]at h;have hl:=zH P (k (q.cut (w.tape w.drawn q))) { w with drawn:=w.drawn+1 };have e:u w.drawn q=w.tape w.drawn q:=(by rw[ht];exact h _ _ ql (Nat.lt_of_lt_of_le (Nat.lt_succ_self _) hl));show Sem.run P (k (q.cut (u w.drawn q))) (({ w with drawn:=w.drawn+1 }:World).tp u)=_;rw[e];exact ih _ (hn _) { w with drawn:=w.drawn+1 } ht (h.mono (Nat.le_succ _) ql)
 | sys c k ih=>intro hn;exact hn.elim
 | program k ih=>intro hn w ht h;exact ih _ (hn _) w ht h
 | mark m k ih=>intro hn w ht h;exact ih hn w ht h
 | halt x=>intro _ w ht h;rfl
def Tp(P:Program){α:Type}(s:Sem α)(w:World):Prop:=∀u,Agree w.tape u w.drawn (s.run P w).w.drawn->s.run P (w.tp u)=(s.run P w).tp u
theorem Tp.of{P:Program}{α:Type}{s:Sem α}(h:zD s)(w:World):Tp P s w:=fun u hu=>run_tp P s w.tape u h w rfl hu
theorem zD.bind{α β:Type}{s:Sem α}{f:α->Sem β}(h:zD s)(k:∀a,zD (f a)):zD (s >>= f):=by
 show zD (s.bind f)
 induction s with
 | pure a=>exact k a
 | load m ad k2 ih=>exact fun v=>ih v (h v)
 | store m ad v k2 ih=>exact ih h
 | new o k2 ih=>exact fun v=>ih v (h v)
 | shape o k2 ih=>exact fun v=>ih v (h v)
 | freeze ad n k2 ih=>exact ih h
 | frozen ad k2 ih=>exact fun v=>ih v (h v)
 | getObj r k2 ih=>exact fun v=>ih v (h v)
 | setObj r o k2 ih=>exact ih h
 | choose q k2 ih=>exact fun v=>ih v (h v)
 | sys c k2 ih=>exact h.elim
 | program k2 ih=>exact fun v=>ih v (h v)
 | mark m k2 ih=>exact ih h
 | halt x=>trivial
theorem Tp.bind{P:Program}{α β:Type}{s:Sem α}{f:α->Sem β}{w:World}(h:(s.run P w).w.drawn<=((s >>= f).run P w).w.drawn->Tp P s w)(k:∀a w1,s.run P w=.ok a w1->w1.tape=w.tape/\((s.run P w).w.drawn<=((s >>= f).run P w).w.drawn->Tp P (f a) w1)):Tp P (s >>= f) w:=by
 intro u hu
 have hle:(s.run P w).w.drawn<=((s >>= f).run P w).w.drawn:=by
  rw[Sem.run_bind]
  cases e:s.run P w with
  | halt x w1=>exact ql
  | ok a w1=>exact zH P (f a) w1
 have h1:=h hle u (hu.mono ql hle);rw[Sem.run_bind,Sem.run_bind,h1];rw[Sem.run_bind]at hu
 cases e:s.run P w with
 | halt x w1=>rfl
 | ok a w1 =>
   rw[e]at hu;have hd:=zC P s e;obtain⟨ht,k⟩:=k a w1 e;have:=k hle u (fun i q a b=>by rw[ht];exact hu i q (Nat.le_trans hd a) b);exact this
end Go.Sim
namespace Go.Sim
open Go
def FzR(f f':Nat×Nat):Prop:=(f.1<=f.2/\f'.1<=f'.2/\(f'.1=f'.2\/(f.1<=f'.1/\f'.2<=f.2)))\/(f.1=0/\0<f.2/\f'.2<=f.2)
inductive DefR (C:FuncId->Prop) (R:Nat->Nat->Prop):Deferred->Deferred->Prop
 | collected {r r':Nat}:R r r'->DefR C R ⟨.collected r,#[]⟩ ⟨.collected r',#[]⟩
inductive DsR (C:FuncId->Prop) (R:Nat->Nat->Prop):List Deferred->List Deferred->Prop
 | nil:DsR C R [] []
 | cons {d d':Deferred} {ds ds':List Deferred}:DefR C R d d'->DsR C R ds ds'->DsR C R (d::ds) (d'::ds')
structure EntR (C:FuncId->Prop) (R:Nat->Nat->Prop) (e e':MapEntry):Prop where
 key:VR C R e.key e'.key
 val:VR C R e.val e'.val
 born:e'.born=e.born
structure LoopR (C:FuncId->Prop) (D:FuncId->Code->Prop) (R:Nat->Nat->Prop) (l l':Loop):Prop where
 state:l'.state=l.state
 pending:l'.pending=l.pending
 fn:l'.fn=l.fn
 tmps:AR C R l.tmps l'.tmps
 params:l'.params=l.params
 assign:l'.assign=l.assign
 body:l'.body=l.body
 defers:R l.defers l'.defers
 okA:D l.fn l.assign
 okB:D l.fn l.body
 okP:∀x,l.pending=some x->D l.fn x
inductive OR (C:FuncId->Prop) (D:FuncId->Code->Prop) (R:Nat->Nat->Prop):Obj->Obj->Prop
 | cells {c c':Array Value} (e:TypeId) {f f':Nat×Nat}:AR C R c c'->FzR f f'->OR C D R (.cells c e f) (.cells c' e f')
 | map {es es':Array MapEntry} (k:Nat):es.size=es'.size->(∀(i:Nat) (e e':MapEntry),es[i]? = some e->es'[i]? = some e'->EntR C R e e')->OR C D R (.map es k) (.map es' k)
 | loop {l l':Loop}:LoopR C D R l l'->OR C D R (.loop l) (.loop l')
 | deferred:OR C D R (.deferred (some [])) (.deferred (some []))
 | taken:OR C D R (.deferred none) (.deferred none)
 | stringIter (s:ByteArray) (n:Nat):OR C D R (.stringIter s n) (.stringIter s n)
 | number {a a':Addr} (lost:Bool):qW R a a'->OR C D R (.number a lost) (.number a' lost)
structure Cfg where
 C:FuncId->Prop
 D:FuncId->Code->Prop
 Fz:Nat->Prop
 lim:Nat
 ng:Nat
 bs:Array Obj:=#[]
 bt:Array Obj:=#[]
def Cfg.at'(K:Cfg)(n:Nat):Cfg:={ K with lim:=n }
structure WR (K:Cfg) (R:Nat->Nat->Prop) (w w':World):Prop where
 fn:∀b c d,R b c->R b d->c=d
 inj:∀b c d,R b d->R c d->b=c
 obj:∀b c,R b c->∃o o',w.heap[b]? = some o/\w'.heap[c]? = some o'/\OR K.C K.D R o o'
 fz:∀b,K.Fz b->∃c e hi,w.heap[b]? = some (.cells c e (0,hi))/\c.size<=hi
 tape:∀i q,w.drawn+i<K.lim->w'.tape (w'.drawn+i) q=w.tape (w.drawn+i) q
 glob:∀b c,R b c->(b<K.ng↔c<K.ng)
 big:K.ng<=w.heap.size
 big':K.ng<=w'.heap.size
structure Ext (K:Cfg) (R R1:Nat->Nat->Prop) (w w' w1 w1':World):Prop where
 le:∀b c,R b c->R1 b c
 new:∀b c,R1 b c->R b c\/(w.heap.size<=b/\w'.heap.size<=c)
 size:w.heap.size<=w1.heap.size
 size':w'.heap.size<=w1'.heap.size
 stay:∀c,c<w'.heap.size->(∀b,R b c->K.Fz b)->w1'.heap[c]? = w'.heap[c]?
 tp:w1.tape=w.tape
 tp':w1'.tape=w'.tape
 os':w1'.os=w'.os
 out':w1'.output=w'.output
 held:∀b,K.Fz b->b<w.heap.size->w1.heap[b]? = w.heap[b]?
inductive EvR (K:Cfg) (R:Nat->Nat->Prop):Event->Prop
 | cell (a:Addr) (wr:Bool) (b:Nat):R b a.block->(wr=true->¬K.Fz b)->EvR K R ⟨.cell a,wr,false⟩
 | obj (r:Nat) (wr:Bool) (b:Nat):R b r->(wr=true->¬K.Fz b)->EvR K R ⟨.obj r,wr,false⟩
 | room:EvR K R ⟨.mark .noRoom,false,true⟩
def xy(K:Cfg)(R:Nat->Nat->Prop)(es:Array Event):Prop:=∀e∈es,EvR K R e
section
variable {C:FuncId->Prop} {D:FuncId->Code->Prop} {R R1:Nat->Nat->Prop} {K:Cfg}
theorem DefR.mono(h:∀b c,R b c->R1 b c){d d':Deferred}(x:DefR C R d d'):DefR C R1 d d':=by
 cases x with
 | collected a=>exact .collected (h _ _ a)
theorem DsR.mono(h:∀b c,R b c->R1 b c){d d':List Deferred}(x:DsR C R d d'):DsR C R1 d d':=by
 induction x with
 | nil=>exact .nil
 | cons a _ i=>exact .cons (a.mono h) i
theorem DsR.append{d d' e e':List Deferred}(x:DsR C R d d')(y:DsR C R e e'):DsR C R (d++e) (d'++e'):=by
 induction x with
 | nil=>exact y
 | cons a _ i=>exact .cons a i
theorem EntR.mono(h:∀b c,R b c->R1 b c){e e':MapEntry}(x:EntR C R e e'):EntR C R1 e e':=⟨x.key.mono h,x.val.mono h,x.born⟩
theorem LoopR.mono(h:∀b c,R b c->R1 b c){l l':Loop}(x:LoopR C D R l l'):LoopR C D R1 l l' :=
 ⟨x.state,x.pending,x.fn,x.tmps.mono h,x.params,x.assign,x.body,h _ _ x.defers,x.okA,x.okB,x.okP⟩
theorem OR.mono(h:∀b c,R b c->R1 b c){o o':Obj}(x:OR C D R o o'):OR C D R1 o o':=by
 cases x with
 | cells e a f=>exact .cells e (a.mono h) f
 | map k s e=>exact .map k s (fun i a b x y=>(e i a b x y).mono h)
 | loop l=>exact .loop (l.mono h)
 | deferred=>exact .deferred
 | taken=>exact .taken
 | stringIter s n=>exact .stringIter s n
 | number l a=>exact .number l (a.mono h)
theorem OR.noChan{o o':Obj}(x:OR C D R o o'):o'.isChan=false:=by cases x<;>rfl
theorem EvR.mono(h:∀b c,R b c->R1 b c){e:Event}(x:EvR K R e):EvR K R1 e:=by
 cases x with
 | cell a wr b x y=>exact .cell a wr b (h _ _ x) y
 | obj r wr b x y=>exact .obj r wr b (h _ _ x) y
 | room=>exact .room
theorem xy.mono(h:∀b c,R b c->R1 b c){es:Array Event}(x:xy K R es):xy K R1 es:=fun e he=>(x e he).mono h
theorem xy.nil:xy K R #[]:=fun e he=>by simp at he
theorem xy.append{es fs:Array Event}(x:xy K R es)(y:xy K R fs):xy K R (es++fs):=fun e he=>(Array.mem_append.1 he).elim (x e) (y e)
theorem xy.one{e:Event}(x:EvR K R e):xy K R #[e]:=fun f hf=>by simp at hf;subst hf;exact x
theorem Ext.refl(w w':World):Ext K R R w w' w w':=⟨fun _ _ h=>h,fun _ _ h=>.inl h,ql,ql,fun _ _ _=>rfl,rfl,rfl,rfl,rfl,fun _ _ _=>rfl⟩
theorem Ext.trans{R2:Nat->Nat->Prop}{w w' w1 w1' w2 w2':World}(h:Ext K R R1 w w' w1 w1')(k:Ext K R1 R2 w1 w1' w2 w2'):Ext K R R2 w w' w2 w2':=by
 refine⟨fun b c x=>k.le _ _ (h.le _ _ x),fun b c x=>?_,Nat.le_trans h.size k.size,Nat.le_trans h.size' k.size',fun c hc hb=>?_,k.tp.trans h.tp,k.tp'.trans h.tp',k.os'.trans h.os',k.out'.trans h.out',fun b hb hlt=>(k.held b hb (Nat.lt_of_lt_of_le hlt h.size)).trans (h.held b hb hlt)⟩
 ·rcases k.new b c x with y|⟨y1,y2⟩
  ·exact h.new b c y
  ·exact .inr ⟨Nat.le_trans h.size y1,Nat.le_trans h.size' y2⟩
 ·rw[k.stay c (Nat.lt_of_lt_of_le hc h.size') (fun b hr=>?_),h.stay c hc hb];rcases h.new b c hr with y|⟨_,y⟩
  ·exact hb b y
  ·omega
end
def yU(w:World):Prop:=∀(b:Nat) (x:List Deferred),w.heap[b]? = some (.deferred (some x))->x=[]
def QC(w w1:World):Prop:=yU w->yU w1
theorem QC.refl(w:World):QC w w:=fun h=>h
theorem QC.trans{w w1 w2:World}(h:QC w w1)(k:QC w1 w2):QC w w2:=fun e=>k (h e)
def xM:Halt->Bool
 | .unsupported (.initOrder _) | .blocked | .waiting | .exit _ | .fatal _ | .throw _ | .goexit=>false
 | _=>true
def qaU(x:Halt)(w w1:World):Prop:=QC w w1/\xM x=true
theorem qaU.refl{x:Halt}(w:World)(h:xM x=true):qaU x w w:=⟨.refl w,h⟩
def Sim(K:Cfg)(P' P:Program)(R:Nat->Nat->Prop){α β:Type}(w w':World)(s:Sem α)(s':Sem β)(Q:(Nat->Nat->Prop)->α->β->Prop):Prop :=
 (∀a w1,s.run P' w=.ok a w1->w1.drawn<=K.lim->∃R1 b w1',s'.run P w'=.ok b w1'/\WR K R1 w1 w1'/\Ext K R R1 w w' w1 w1'/\xy K R1 (s'.events P w' #[])/\Q R1 a b/\QC w w1) /\
 (∀h w1,s.run P' w=.halt h w1->w1.drawn<=K.lim->qaU h w w1) /\
 ((s.run P' w).w.drawn<=K.lim->Tp P' s w)
def qh(K:Cfg)(P' P:Program)(R:Nat->Nat->Prop){α β:Type}(s:Sem α)(s':Sem β)(Q:(Nat->Nat->Prop)->α->β->Prop):Prop :=
 ∀w w',WR K R w w'->Sim K P' P R w w' s s' Q
def SimL(K:Cfg)(P' P:Program)(R:Nat->Nat->Prop){α β:Type}(w w':World)(s:Sem α)(s':Sem β)(Q:(Nat->Nat->Prop)->α->β->Prop):Prop :=
 (∀a w1,s.run P' w=.ok a w1->w1.drawn=K.lim->∃R1 b w1',s'.run P w'=.ok b w1'/\WR K R1 w1 w1'/\Ext K R R1 w w' w1 w1'/\xy K R1 (s'.events P w' #[])/\Q R1 a b/\QC w w1) /\
 (∀h w1,s.run P' w=.halt h w1->w1.drawn<=K.lim->qaU h w w1) /\
 ((s.run P' w).w.drawn<=K.lim->Tp P' s w)
def jI(K:Cfg)(P' P:Program)(R:Nat->Nat->Prop){α β:Type}(s:Sem α)(s':Sem β)(Q:(Nat->Nat->Prop)->α->β->Prop):Prop :=
 ∀w w',WR K R w w'->SimL K P' P R w w' s s' Q
section
variable {K:Cfg} {P' P:Program} {R:Nat->Nat->Prop}
theorem qh.l{α β:Type}{s:Sem α}{s':Sem β}{Q:(Nat->Nat->Prop)->α->β->Prop}(h:qh K P' P R s s' Q):jI K P' P R s s' Q:=fun w w' hw =>
 ⟨fun a w1 hr hd=>(h w w' hw).1 a w1 hr (Nat.le_of_eq hd),(h w w' hw).2⟩
theorem qh.bindL{α β α' β':Type}{s:Sem α}{s':Sem α'}{f:α->Sem β}{f':α'->Sem β'}{Q:(Nat->Nat->Prop)->α->α'->Prop}{Q':(Nat->Nat->Prop)->β->β'->Prop}
 (h:qh K P' P R s s' Q) (k:∀R1 a b,(∀x y,R x y->R1 x y)->Q R1 a b->jI K P' P R1 (f a) (f' b) Q'):jI K P' P R (s >>= f) (s' >>= f') Q':=by
 intro w w' hw;refine⟨fun a w2 hr hd=>?_,fun x w2 hr hd=>?_,fun hd=>Tp.bind (fun hl=>(h w w' hw).2.2 (Nat.le_trans hl hd)) fun a w1 e=>?_⟩
 ·rw[Sem.run_bind]at hr
  cases e:s.run P' w with
  | halt x y=>rw[e]at hr;cases hr
  | ok a1 w1 =>
    rw[e]at hr;simp only[Result.andThen_ok]at hr;have hd1:w1.drawn<=K.lim:=Nat.le_trans (zC P' _ hr) (Nat.le_of_eq hd);obtain⟨R1,b1,w1',e1,hw1,hx1,hv1,hq,hk⟩:=(h w w' hw).1 a1 w1 e hd1;obtain⟨R2,b2,w2',e2,hw2,hx2,hv2,hq2,hk2⟩:=(k R1 a1 b1 hx1.le hq w1 w1' hw1).1 a w2 hr hd;refine⟨R2,b2,w2',?_,hw2,hx1.trans hx2,?_,hq2,hk.trans hk2⟩
    ·rw[Sem.run_bind,e1];exact e2
    ·rw[Sem.events_bind,e1];simp only[Result.evThen_ok];rw[Sem.events_acc];exact(hv1.mono hx2.le).append hv2
 ·rw[Sem.run_bind]at hr
  cases e:s.run P' w with
  | halt x y =>
    rw[e]at hr;cases hr;exact(h w w' hw).2.1 _ _ e hd
  | ok a1 w1 =>
    rw[e]at hr;simp only[Result.andThen_ok]at hr;have hd1:w1.drawn<=K.lim:=Nat.le_trans (Qe P' _ hr) hd;obtain⟨R1,b1,w1',e1,hw1,hx1,hv1,hq,hk⟩:=(h w w' hw).1 a1 w1 e hd1;have hh:=(k R1 a1 b1 hx1.le hq w1 w1' hw1).2.1 _ _ hr hd;exact⟨hk.trans hh.1,hh.2⟩
 ·have hrun:(s >>= f).run P' w=(f a).run P' w1:=by rw[Sem.run_bind,e];rfl
  have hd1:w1.drawn<=K.lim:=Nat.le_trans (zH P' (f a) w1) (hrun▸hd);obtain⟨R1,b1,w1',e1,hw1,hx1,hv1,hq,hk⟩:=(h w w' hw).1 a w1 e hd1;exact⟨hx1.tp,fun _=>(k R1 a b1 hx1.le hq w1 w1' hw1).2.2 (hrun▸hd)⟩
theorem jI.pure{α β α' β':Type}{s:Sem α}{s':Sem α'}{f:α->β}{f':α'->β'}{Q:(Nat->Nat->Prop)->α->α'->Prop}{Q':(Nat->Nat->Prop)->β->β'->Prop}
 (h:jI K P' P R s s' Q) (k:∀R1 a b,(∀x y,R x y->R1 x y)->Q R1 a b->Q' R1 (f a) (f' b)):jI K P' P R (s >>= fun a=>Pure.pure (f a)) (s' >>= fun a=>Pure.pure (f' a)) Q':=by
 intro w w' hw;have ed:((s >>= fun a=>Pure.pure (f a)).run P' w).w.drawn=(s.run P' w).w.drawn:=by rw[Sem.run_bind];cases s.run P' w<;>rfl
 refine⟨fun a w2 hr hd=>?_,fun x w2 hr hd=>?_,fun hd u hu=>(by
  rw[ed]at hd hu;rw[Sem.run_bind,Sem.run_bind,(h w w' hw).2.2 hd u hu]
  cases s.run P' w<;>rfl)⟩
 ·rw[Sem.run_bind]at hr
  cases e:s.run P' w with
  | halt x y=>rw[e]at hr;cases hr
  | ok a1 w1 =>
    rw[e]at hr;simp only[Result.andThen_ok,Sem.run_pure,Result.ok.injEq]at hr;obtain⟨rfl,rfl⟩:=hr;obtain⟨R1,b1,w1',e1,hw1,hx1,hv1,hq,hk⟩:=(h w w' hw).1 a1 w1 e hd;refine⟨R1,f' b1,w1',?_,hw1,hx1,?_,k R1 a1 b1 hx1.le hq,hk⟩
    ·rw[Sem.run_bind,e1];rfl
    ·rw[Sem.events_bind,e1];simp only[Result.evThen_ok];rw[Sem.events_acc];exact hv1.append (by rw[Sem.events_pure];exact xy.nil)
 ·rw[Sem.run_bind]at hr
  cases e:s.run P' w with
  | halt x y=>rw[e]at hr;cases hr;exact(h w w' hw).2.1 _ _ e hd
  | ok a1 w1=>rw[e]at hr;cases hr
theorem qh.bind{α β α' β':Type}{s:Sem α}{s':Sem α'}{f:α->Sem β}{f':α'->Sem β'}{Q:(Nat->Nat->Prop)->α->α'->Prop}{Q':(Nat->Nat->Prop)->β->β'->Prop}
 (h:qh K P' P R s s' Q) (k:∀R1 a b,(∀x y,R x y->R1 x y)->Q R1 a b->qh K P' P R1 (f a) (f' b) Q'):qh K P' P R (s >>= f) (s' >>= f') Q':=by
 intro w w' hw;refine⟨fun a w2 hr hd=>?_,fun x w2 hr hd=>?_,fun hd=>Tp.bind (fun hl=>(h w w' hw).2.2 (Nat.le_trans hl hd)) fun a w1 e=>?_⟩
 ·rw[Sem.run_bind]at hr
  cases e:s.run P' w with
  | halt x y=>rw[e]at hr;cases hr
  | ok a1 w1 =>
    rw[e]at hr;simp only[Result.andThen_ok]at hr;have hd1:w1.drawn<=K.lim:=Nat.le_trans (zC P' _ hr) hd;obtain⟨R1,b1,w1',e1,hw1,hx1,hv1,hq,hk⟩:=(h w w' hw).1 a1 w1 e hd1;obtain⟨R2,b2,w2',e2,hw2,hx2,hv2,hq2,hk2⟩:=(k R1 a1 b1 hx1.le hq w1 w1' hw1).1 a w2 hr hd;refine⟨R2,b2,w2',?_,hw2,hx1.trans hx2,?_,hq2,hk.trans hk2⟩
    ·rw[Sem.run_bind,e1];exact e2
    ·rw[Sem.events_bind,e1];simp only[Result.evThen_ok];rw[Sem.events_acc];exact(hv1.mono hx2.le).append hv2
 ·rw[Sem.run_bind]at hr
  cases e:s.run P' w with
  | halt x y =>
    rw[e]at hr;cases hr;exact(h w w' hw).2.1 _ _ e hd
  | ok a1 w1 =>
    rw[e]at hr;simp only[Result.andThen_ok]at hr;have hd1:w1.drawn<=K.lim:=Nat.le_trans (Qe P' _ hr) hd;obtain⟨R1,b1,w1',e1,hw1,hx1,hv1,hq,hk⟩:=(h w w' hw).1 a1 w1 e hd1;have hh:=(k R1 a1 b1 hx1.le hq w1 w1' hw1).2.1 _ _ hr hd;exact⟨hk.trans hh.1,hh.2⟩
 ·have hrun:(s >>= f).run P' w=(f a).run P' w1:=by rw[Sem.run_bind,e];rfl
  have hd1:w1.drawn<=K.lim:=Nat.le_trans (zH P' (f a) w1) (hrun▸hd);obtain⟨R1,b1,w1',e1,hw1,hx1,hv1,hq,hk⟩:=(h w w' hw).1 a w1 e hd1;exact⟨hx1.tp,fun _=>(k R1 a b1 hx1.le hq w1 w1' hw1).2.2 (hrun▸hd)⟩
theorem qh.pure{α β:Type}{a:α}{b:β}{Q:(Nat->Nat->Prop)->α->β->Prop}(h:Q R a b):qh K P' P R (Pure.pure a:Sem α) (Pure.pure b) Q:=by
 intro w w' hw;refine⟨fun x w1 hr _=>?_,fun x w1 hr _=>(by cases hr),fun _=>Tp.of (by exact trivial) w⟩;cases hr;exact⟨R,b,w',rfl,hw,.refl w w',xy.nil,h,.refl w⟩
theorem qh.lost{α β:Type}{s:Sem α}{s':Sem β}{Q:(Nat->Nat->Prop)->α->β->Prop}(h:∀P w,∃x w1,s.run P w=.halt x w1/\qaU x w w1)(hn:zD s):qh K P' P R s s' Q:=fun w _ _=>by
 obtain⟨x,w1,e,hk⟩:=h P' w;refine⟨fun a w2 hr _=>?_,fun y w2 hr _=>?_,fun _=>.of hn w⟩
 ·rw[e]at hr;cases hr
 ·rw[e]at hr;cases hr;exact hk
theorem qh.halted{α β γ:Type}{x:Halt}{f:γ->Sem α}{s':Sem β}{Q:(Nat->Nat->Prop)->α->β->Prop}(hx:xM x=true:=by rfl):qh K P' P R ((.halt x:Sem γ) >>= f) s' Q:=.lost (fun _ w=>⟨x,w,rfl,.refl w hx⟩) trivial
theorem qh.stuck{α β:Type}{s':Sem β}{why:String}{Q:(Nat->Nat->Prop)->α->β->Prop}:qh K P' P R (Go.stuck why:Sem α) s' Q:=.lost (fun _ w=>⟨_,w,rfl,.refl w rfl⟩) trivial
theorem qh.unsupported{α β:Type}{s':Sem β}{u:Unsupported}{Q:(Nat->Nat->Prop)->α->β->Prop}(hu:xM (.unsupported u)=true:=by rfl):qh K P' P R (Go.unsupported u:Sem α) s' Q:=.lost (fun _ w=>⟨_,w,rfl,.refl w hu⟩) trivial
theorem QC.push(w:World){o:Obj}(ho:∀x,o=.deferred (some x)->x=[]):QC w { w with heap:=w.heap.push o }:=fun h b x e=>by
 simp only[Array.getElem?_push]at e;split at e
 ·cases e;exact ho x rfl
 ·exact h b x e
theorem OR.noDef{C:FuncId->Prop}{D:FuncId->Code->Prop}{R:Nat->Nat->Prop}{o o':Obj}(h:OR C D R o o'):∀x,o=.deferred (some x)->x=[]:=by
 intro x e;subst e;cases h;rfl
theorem zP{α:Type}(e:RuntimeError)(P:Program)(w:World):∃x w1,(Go.runtimePanic e:Sem α).run P w=.halt x w1/\qaU x w w1:=by
 have el:∀(t:TypeId) (w:World),(∃x,(Go.elemOf t).run P w=.ok x w)\/∃x,(Go.elemOf t).run P w=.halt x w/\xM x=true:=fun t w=>by
  unfold Go.elemOf Go.underlying;simp only[Sem.run_bind,run_program,Result.andThen_ok]
  cases P.underlying t with
  | none=>exact .inr ⟨_,rfl,rfl⟩
  | some d=>cases d<;>first|exact .inr ⟨_,rfl,rfl⟩|exact .inl ⟨_,rfl⟩
 unfold Go.runtimePanic
 cases e<;>simp only[Sem.run_bind,run_program,Result.andThen_ok,run_goPanic]<;>first
  | exact⟨_,_,rfl,.refl w rfl⟩
  | (rcases el _ w with⟨x,hx⟩|⟨x,hx,ht⟩
     ·rw[hx];simp only[Result.andThen_ok,Go.newVar,Go.newRow,Sem.run_bind,run_newObj,Sem.run_pure];exact⟨_,_,rfl,.push w (fun _ e=>by cases e),rfl⟩
     ·rw[hx];exact⟨_,_,rfl,.refl w ht⟩)
theorem JU(t:TypeId):zD (Go.elemOf t):=by
 unfold Go.elemOf Go.underlying;refine zD.bind (zD.bind (fun P=>trivial) fun P=>?_) fun d=>?_
 ·split<;>trivial
 ·split<;>trivial
theorem jd{α β:Type}(e:RuntimeError)(f:α->Sem β):zD ((Go.runtimePanic e:Sem α) >>= f):=by
 unfold Go.runtimePanic;rw[bind_assoc];refine zD.bind (fun P=>trivial) fun p=>?_
 have nv:∀(t:TypeId) (v:Value),zD (Go.newVar t v):=fun t v=>by
  unfold Go.newVar Go.newRow;exact fun r=>trivial
 cases e<;>first
  | exact trivial
  | (dsimp only
     rw[bind_assoc];refine zD.bind (JU _) fun t=>?_;rw[bind_assoc]
     exact zD.bind (nv _ _) fun r=>trivial)
theorem yK{α:Type}(e:RuntimeError):zD (Go.runtimePanic e:Sem α):=by
 have h:=jd (α:=α) e (fun a=>Pure.pure a);rwa[bind_pure]at h
theorem qh.runtimePanic{α β:Type}{s':Sem β}{e:RuntimeError}{Q:(Nat->Nat->Prop)->α->β->Prop}:qh K P' P R (Go.runtimePanic e:Sem α) s' Q:=.lost (fun P w=>zP e P w) (yK e)
theorem qh.panicked{α β γ:Type}{e:RuntimeError}{f:γ->Sem α}{s':Sem β}{Q:(Nat->Nat->Prop)->α->β->Prop}:qh K P' P R ((Go.runtimePanic e:Sem γ) >>= f) s' Q:=.lost (fun P w=>by
 obtain⟨x,w1,h,k⟩:=zP (α:=γ) e P w
 exact⟨x,w1,by rw[Sem.run_bind,h];rfl,k⟩) (jd e f)
theorem qh.boundsPanic{α β:Type}{s':Sem β}{k:IntKind}{x y:Int}{c:BoundsCode}{Q:(Nat->Nat->Prop)->α->β->Prop}:qh K P' P R (Go.boundsPanic k x y c:Sem α) s' Q:=by
 refine .lost (fun P w=>?_) (by
  unfold Go.boundsPanic;dsimp only;split
  ·exact zD.bind (by rw[map_eq_pure_bind];exact fun n=>trivial) fun b=>yK _
  ·exact zD.bind (by exact trivial) fun b=>yK _)
 ·have key:∀(s:Sem Bool),(∃b w2,s.run P w=.ok b w2/\w2.heap=w.heap)->∃z w1,(s >>= fun b=>(Go.runtimePanic (.bounds (IntKind.i64.wrap x) y b c):Sem α)).run P w=.halt z w1/\qaU z w w1:=fun s ⟨b,w2,e,hh⟩=>by
   rw[Sem.run_bind,e];obtain⟨z,w1,h1,h2⟩:=zP (α:=α) (.bounds (IntKind.i64.wrap x) y b c) P w2;exact⟨z,w1,h1,fun hn=>h2.1 fun i x hi=>hn i x (hh▸hi),h2.2⟩
  unfold Go.boundsPanic;dsimp only;split
  ·refine key _ ?_;rw[Sem.run_map,run_choose];split
   ·exact⟨_,_,rfl,rfl⟩
   ·exact⟨_,_,rfl,rfl⟩
  ·exact key _ ⟨_,_,rfl,rfl⟩
theorem qh.mono{α β:Type}{s:Sem α}{s':Sem β}{Q Q':(Nat->Nat->Prop)->α->β->Prop}(h:qh K P' P R s s' Q)(k:∀R1 a b,(∀x y,R x y->R1 x y)->Q R1 a b->Q' R1 a b):qh K P' P R s s' Q':=by
 intro w w' hw;refine⟨fun a w1 hr hd=>?_,(h w w' hw).2.1,(h w w' hw).2.2⟩;obtain⟨R1,b,w1',e,h1,h2,h3,h4,h5⟩:=(h w w' hw).1 a w1 hr hd;exact⟨R1,b,w1',e,h1,h2,h3,k _ _ _ h2.le h4,h5⟩
end
end Go.Sim
section
namespace Go.Sim
open Go
def jJ(v:Value):Prop:=∀(C:FuncId->Prop) (R:Nat->Nat->Prop),VR C R v v
def xN(xs:Array Value):Prop:=∀(C:FuncId->Prop) (R:Nat->Nat->Prop),AR C R xs xs
theorem jJ.cells{v:Value}(h:jJ v):xN v.cells:=fun C R=>(h C R).cells
theorem xN.agg{xs:Array Value}(h:xN xs):jJ (.agg xs):=fun C R=>(h C R).agg
theorem xN.append{xs ys:Array Value}(h:xN xs)(k:xN ys):xN (xs++ys):=fun C R=>(h C R).append (k C R)
theorem qdI{xs:Array Value}(h:∀x∈xs,jJ x):xN xs:=fun C R=>⟨rfl,fun i x x' a b=>by
 rw[a]at b;cases b
 exact h x (Array.mem_of_getElem? a) C R⟩
theorem xN.mem{xs:Array Value}(h:xN xs){x:Value}(hx:x∈xs):jJ x:=fun C R=>by
 obtain⟨i,hi,rfl⟩:=Array.mem_iff_getElem.1 hx;exact(h C R).el i _ _ (Array.getElem?_eq_getElem hi) (Array.getElem?_eq_getElem hi)
theorem JW{α β:Type}{P:β->Prop}{body:α->β->Option (ForInStep β)}(hb:∀a s r,body a s=some r->P s->P r.value):∀(l:List α) (s s':β),forIn l s body=some s'->P s->P s'
 | [],s,s',h,hp=>by
   simp at h;subst h;exact hp
 | a::l,s,s',h,hp=>by
   rw[List.forIn_cons]at h
   cases e:body a s with
   | none=>rw[e]at h;cases h
   | some r =>
     rw[e]at h;have h1:=hb a s r e hp
     cases r with
     | done b=>simp at h;subst h;exact h1
     | yield b=>exact JW hb l b s' h h1
variable {info:TypeId->Option TypeInfo}
theorem ZI(hinfo:∀t i v,info t=some i->i.zero=some v->jJ v){fs:Array Field}{i:TypeInfo}{v:Value}(h:Made.reckonStruct info fs=some i)(hz:i.zero=some v):jJ v:=by
 unfold Made.reckonStruct at h;simp only[Option.bind_eq_bind,Option.pure_def]at h;rw[<-Array.forIn_toList]at h;obtain⟨s,hs,e⟩:=Option.bind_eq_some_iff.1 h
 have hkey:∀cs,s.2.2.2.2.2.2.2.1=some cs->xN cs:=by
  refine JW (P:=fun s=>∀cs,s.2.2.2.2.2.2.2.1=some cs->xN cs) (fun f s r hr hp=>?_) _ _ _ hs (fun cs h=>by simp at h;subst h;exact fun C R=>AR.nil);obtain⟨i0,hi0,hr⟩:=Option.bind_eq_some_iff.1 hr
  have fin:∀cs,(if s.2.1+i0.size>Made.mostCells then none else s.2.2.2.2.2.2.2.1.bind fun x=>i0.zero.bind fun y=>some (x++y.cells))=some cs->xN cs:=fun cs hcs=>by
   split at hcs
   ·cases hcs
   ·obtain⟨a,ha,hcs⟩:=Option.bind_eq_some_iff.1 hcs;obtain⟨b,hb,e⟩:=Option.bind_eq_some_iff.1 hcs;cases e;exact(hp a ha).append (hinfo _ _ _ hi0 hb).cells
  clear hs h hp hinfo;split at hr
  ·cases hr
  split at hr
  ·cases hr
  split at hr
  all_goals
   obtain⟨tag,_,hr⟩:=Option.bind_eq_some_iff.1 hr;split at hr<;>(cases hr;exact fin)
 split at e
 all_goals
  cases e;simp only at hz;obtain⟨cs,hcs,rfl⟩:=Option.map_eq_some_iff.1 hz;exact(hkey cs hcs).agg
theorem qbw(hinfo:∀t i v,info t=some i->i.zero=some v->jJ v){d:TypeDesc}{i:TypeInfo}{v:Value}(h:Made.reckon info d=some i)(hz:i.zero=some v):jJ v:=by
 have word:∀{a:TypeDesc} {s:String} {z:Value} {c:Bool} {b:Nat},jJ z->(Made.word a s z c b).zero=some v->jJ v:=fun hz h=>by cases h;exact hz
 cases d with
 | struct fs=>exact ZI hinfo h hz
 | pointer e =>
   unfold Made.reckon at h;simp only[Option.bind_eq_bind,Option.pure_def]at h;obtain⟨i0,hi0,h⟩:=Option.bind_eq_some_iff.1 h;have pn:jJ (.pointer none):=fun _ _=>.pnil;split at h
   ·cases h
   ·split at h
    ·cases h
    ·obtain⟨_,_,e⟩:=Option.bind_eq_some_iff.1 h;cases e;exact word pn hz
   ·obtain⟨_,_,e⟩:=Option.bind_eq_some_iff.1 h;cases e;exact word pn hz
 | slice e =>
   unfold Made.reckon at h;simp only[Option.bind_eq_bind,Option.pure_def]at h;obtain⟨i0,hi0,h⟩:=Option.bind_eq_some_iff.1 h;obtain⟨_,_,e⟩:=Option.bind_eq_some_iff.1 h;cases e;exact word (fun _ _=>.snil _ _) hz
 | map k e =>
   unfold Made.reckon at h;simp only[Option.bind_eq_bind,Option.pure_def]at h;obtain⟨i0,hi0,h⟩:=Option.bind_eq_some_iff.1 h;obtain⟨_,_,h⟩:=Option.bind_eq_some_iff.1 h;obtain⟨i0,hi0,h⟩:=Option.bind_eq_some_iff.1 h;obtain⟨_,_,e⟩:=Option.bind_eq_some_iff.1 h;cases e;exact word (fun _ _=>.mnil) hz
 | chan dir e =>
   unfold Made.reckon at h;simp only[Option.bind_eq_bind,Option.pure_def]at h;obtain⟨i0,hi0,h⟩:=Option.bind_eq_some_iff.1 h;obtain⟨_,_,e⟩:=Option.bind_eq_some_iff.1 h;cases e;exact word (fun _ _=>.cnil) hz
 | func ps rs vv =>
   unfold Made.reckon at h;simp only[Option.bind_eq_bind,Option.pure_def]at h;obtain⟨_,_,e⟩:=Option.bind_eq_some_iff.1 h;cases e;exact word (fun _ _=>.nilFunc) hz
 | array n e =>
   unfold Made.reckon at h;simp only[Option.bind_eq_bind,Option.pure_def]at h;obtain⟨i0,hi0,h⟩:=Option.bind_eq_some_iff.1 h;obtain⟨_,_,e⟩:=Option.bind_eq_some_iff.1 h;cases e;simp only at hz;split at hz
   ·cases hz
   ·split at hz
    ·cases hz;exact xN.agg fun C R=>AR.nil
    ·obtain⟨z,hz0,rfl⟩:=Option.map_eq_some_iff.1 hz;refine(qdI fun x hx=>?_).agg;obtain⟨ys,h1,h2⟩:=Array.mem_flatten.1 hx;have:=Array.eq_of_mem_replicate h1;subst this;exact(hinfo _ _ _ hi0 hz0).cells.mem h2
 | _=>simp[Made.reckon]at h
theorem qeK{T:Tables}(hT:∀(k:Nat) (i:TypeInfo) (v:Value),T.types[k]? = some i->i.zero=some v->jJ v){t:TypeId}{i:TypeInfo}{v:Value}(h:T.info? t=some i)(hz:i.zero=some v):jJ v:=by
 have key:∀(f:Nat) (t:TypeId) (i:TypeInfo) (v:Value),Made.infoAt T f t=some i->i.zero=some v->jJ v:=by
  intro f
  induction f with
  | zero=>intro t i v h;unfold Made.infoAt at h;cases h
  | succ f ih =>
    intro t i v h hz;unfold Made.infoAt at h;split at h
    ·exact hT _ _ _ h hz
    ·obtain⟨d,_,h⟩:=Option.bind_eq_some_iff.1 h;exact qbw ih h hz
 unfold Tables.info? at h;split at h
 ·exact hT _ _ _ h hz
 ·exact key _ _ _ _ h hz
end Go.Sim
end
namespace Go.Sim
open Go
section
variable {K:Cfg} {P' P:Program} {R:Nat->Nat->Prop} {w w':World}
theorem WR.cells{b c:Nat}{xs:Array Value}{e:TypeId}{f:Nat×Nat}(h:WR K R w w')(hr:R b c)(hb:w.heap[b]? = some (.cells xs e f)) :
 ∃xs' f',w'.heap[c]? = some (.cells xs' e f')/\AR K.C R xs xs'/\FzR f f':=by
 obtain⟨o,o',h1,h2,h3⟩:=h.obj b c hr;rw[hb]at h1;cases h1;cases h3 with|cells e a f=>exact⟨_,_,h2,a,f⟩
theorem WR.cell{a a':Addr}{v:Value}(h:WR K R w w')(ha:qW R a a')(hc:w.cell? a=some v):∃v',w'.cell? a'=some v'/\VR K.C R v v':=by
 obtain⟨h1,h2,h3⟩:=ha;unfold World.cell? at hc⊢;split at hc
 ·rename_i xs e f hb;obtain⟨xs',f',e',ar,_⟩:=h.cells h1 hb;rw[e'];simp only[h2,h3];split at hc
  ·cases hc
  ·rw[if_neg ‹_›];exact ar.get hc
 ·cases hc
theorem WR.noCell{a a':Addr}(h:WR K R w w')(ha:qW R a a')(what:String):xM (w.noCell a what)=true:=by
 obtain⟨o,o',h1,_,h3⟩:=h.obj _ _ ha.1;unfold World.noCell;rw[h1];cases h3<;>rfl
theorem WR.noFarLoad{a a':Addr}(h:WR K R w w')(ha:qW R a a')(p:Program)(m:Bool):∃e,w.farLoad p a m=.error e/\xM e=true:=by
 have k:=h.noCell ha;obtain⟨o,o',h1,_,h3⟩:=h.obj _ _ ha.1;unfold World.farLoad;rw[h1];cases h3<;>exact⟨_,rfl,k _⟩
theorem WR.noFarStore{a a':Addr}(h:WR K R w w')(ha:qW R a a')(p:Program)(v:Value)(m:Bool):∃e,w.farStore p a v m=.error e/\xM e=true:=by
 have k:=h.noCell ha;obtain⟨o,o',h1,_,h3⟩:=h.obj _ _ ha.1;unfold World.farStore;rw[h1];cases h3<;>exact⟨_,rfl,k _⟩
theorem WR.notFrozen{a a':Addr}{v:Value}(h:WR K R w w')(ha:qW R a a')(hc:w.cell? a=some v)(hf:w.frozen? a=false):w'.frozen? a'=false/\¬K.Fz a.block:=by
 obtain⟨h1,h2,h3⟩:=ha;unfold World.cell? at hc;split at hc
 ·rename_i xs e f hb;obtain⟨xs',f',e',ar,hz⟩:=h.cells h1 hb;unfold World.frozen? at hf⊢;rw[hb]at hf;rw[e'];obtain⟨lo,hi⟩:=f;obtain⟨lo',hi'⟩:=f';simp only[Bool.and_eq_false_iff,decide_eq_false_iff_not,Nat.not_le,Nat.not_lt]at hf⊢;unfold FzR at hz;simp only at hz;refine⟨by rw[h2];omega,fun hz=>?_⟩;obtain⟨c,e2,hi2,hh,hsz⟩:=h.fz _ hz;rw[hb]at hh;simp only[Option.some.injEq,Obj.cells.injEq,Prod.mk.injEq]at hh;obtain⟨rfl,_,rfl,rfl⟩:=hh;split at hc
  ·cases hc
  ·have:=(qy hc).1;omega
 ·cases hc
theorem heap_setCell_same{w:World}{a:Addr}{v:Value}{xs:Array Value}{e:TypeId}{f:Nat×Nat}(h:w.heap[a.block]? = some (.cells xs e f)) :
 (w.setCell a v).heap[a.block]? = some (.cells (if a.spot.isSome then xs else xs.setIfInBounds a.off v) e f):=by
 simp only[World.setCell,Array.getElem?_modify,if_true,h,Option.map_some]
theorem zB{w:World}{a:Addr}{v:Value}{b:Nat}(h:a.block≠b):(w.setCell a v).heap[b]? = w.heap[b]? := by
 simp only[World.setCell,Array.getElem?_modify,if_neg h]
theorem WR.setCell{a a':Addr}{v v' x:Value}(h:WR K R w w')(ha:qW R a a')(hc:w.cell? a=some x)(hz:¬K.Fz a.block)(hv:VR K.C R v v'):WR K R (w.setCell a v) (w'.setCell a' v'):=by
 refine⟨h.fn,h.inj,fun b c hr=>?_,fun b hb=>?_,fun i q hi=>h.tape i q hi,h.glob,by simpa[World.setCell]using h.big,by simpa[World.setCell]using h.big'⟩
 ·by_cases e:a.block=b
  ·subst e;obtain rfl:=h.fn _ _ _ hr ha.1;unfold World.cell? at hc;split at hc
   ·rename_i xs e f hb;obtain⟨xs',f',e',ar,hzz⟩:=h.cells hr hb;refine⟨_,_,heap_setCell_same hb,heap_setCell_same e',?_⟩;rw[ha.2.2,ha.2.1];refine .cells e ?_ hzz;split
    ·exact ar
    ·exact ar.set _ hv
   ·cases hc
  ·have e':a'.block≠c:=fun x=>e (h.inj _ _ _ (x▸ha.1) hr);rw[zB e,zB e'];exact h.obj b c hr
 ·have e:a.block≠b:=fun x=>hz (x▸hb);rw[zB e];exact h.fz b hb
theorem Ext.setCell{a a':Addr}{v v':Value}(ha:qW R a a')(hz:¬K.Fz a.block):Ext K R R w w' (w.setCell a v) (w'.setCell a' v'):=by
 refine⟨fun _ _ h=>h,fun _ _ h=>.inl h,by simp[World.setCell],by simp[World.setCell],fun c _ hb=>?_,rfl,rfl,rfl,rfl,fun b hb _=>?_⟩
 ·exact zB fun e=>hz (hb _ (e▸ha.1))
 ·exact zB fun e=>hz (e▸hb)
theorem QC.setCell(w:World)(a:Addr)(v:Value):QC w (w.setCell a v):=fun h b x e=>by
 by_cases hb:a.block=b
 ·subst hb;simp only[World.setCell,Array.getElem?_modify,if_true]at e
  cases e1:w.heap[a.block]? with
  | none=>rw[e1]at e;cases e
  | some o =>
    rw[e1]at e
    cases o<;>simp only[Option.map_some,Option.some.injEq]at e<;>first
     | (cases e;done)
     | (cases e;exact h _ x e1)
 ·rw[zB hb]at e;exact h b x e
theorem qh.load{a a':Addr}(ha:qW R a a'):qh K P' P R (Go.load a) (Go.load a') (fun R1 v v'=>VR K.C R1 v v'):=by
 intro w w' hw;refine⟨fun v w1 hr _=>?_,fun x w1 hr _=>?_,fun _=>Tp.of (by exact fun _=>trivial) w⟩;rotate_left
 ·rw[run_load]at hr;split at hr
  ·cases hr
  ·obtain⟨e,he,ht⟩:=hw.noFarLoad ha P' (Mode.plain == .atomic);rw[he]at hr;cases hr;exact .refl w ht
 rw[run_load]at hr
 cases hc:w.cell? a with
 | none =>
   obtain⟨e,he,_⟩:=hw.noFarLoad ha P' (Mode.plain == .atomic);rw[hc,he]at hr;cases hr
 | some x =>
   rw[hc]at hr;cases hr;obtain⟨v',e',hv⟩:=hw.cell ha hc;refine⟨R,v',w',by rw[run_load,e'],hw,.refl _ _,?_,hv,.refl w⟩;rw[events_load,e'];exact xy.one (.cell a' false a.block ha.1 (by simp))
theorem qh.store{a a':Addr}{v v':Value}(ha:qW R a a')(hv:VR K.C R v v'):qh K P' P R (Go.store a v) (Go.store a' v') (fun _ _ _=>True):=by
 intro w w' hw;refine⟨fun u w1 hr _=>?_,fun x w1 hr _=>?_,fun _=>Tp.of (by exact trivial) w⟩;rotate_left
 ·by_cases ho:v.oneCell'=true
  ·rw[run_store P' w a v .plain ho]at hr;split at hr
   ·split at hr
    ·cases hr;exact .refl w rfl
    ·cases hr
   ·obtain⟨e,he,ht⟩:=hw.noFarStore ha P' v (Mode.plain == .atomic);rw[he]at hr;cases hr;exact .refl w ht
  ·cases v<;>simp[Value.oneCell']at ho<;>simp[Go.store,Sem.run]at hr<;>(obtain⟨rfl,rfl⟩:=hr;exact .refl w rfl)
 by_cases ho:v.oneCell'=true
 ·have ho':v'.oneCell'=true:=by cases hv<;>first|rfl|simp[Value.oneCell']at ho
  rw[run_store P' w a v .plain ho]at hr
  cases hc:w.cell? a with
  | none =>
    obtain⟨e,he,_⟩:=hw.noFarStore ha P' v (Mode.plain == .atomic);rw[hc,he]at hr;cases hr
  | some x =>
    rw[hc]at hr;simp only at hr;split at hr
    ·cases hr
    ·rename_i hf;cases hr;simp only[Bool.not_eq_true]at hf;obtain⟨hf',hz⟩:=hw.notFrozen ha hc hf;obtain⟨x',e',_⟩:=hw.cell ha hc;refine⟨R,(),w'.setCell a' v',?_,hw.setCell ha hc hz hv,.setCell ha hz,?_,trivial,.setCell w a v⟩
     ·rw[run_store P w' a' v' .plain ho',e'];simp[hf']
     ·rw[events_store P w' #[] a' v' .plain ho',e'];simp only[hf',Bool.false_eq_true,if_false];exact xy.one (.cell a' true a.block ha.1 (fun _=>hz))
 ·exfalso;cases v<;>simp[Value.oneCell']at ho<;>simp[Go.store,Sem.run]at hr
def Rnew(R:Nat->Nat->Prop)(b c:Nat):Nat->Nat->Prop:=fun x y=>R x y\/(x=b/\y=c)
theorem qh.newObj{o o':Obj}(ho:OR K.C K.D R o o'):qh K P' P R (Go.newObj o) (Go.newObj o') (fun R1 r r'=>R1 r r'):=by
 intro w w' hw;refine⟨fun r w1 hr _=>?_,fun x w1 hr _=>(by rw[run_newObj]at hr;cases hr),fun _=>Tp.of (by exact fun _=>trivial) w⟩;rw[run_newObj]at hr;cases hr
 have lt:∀b c,R b c->b<w.heap.size/\c<w'.heap.size:=fun b c h=>by
  obtain⟨x,y,h1,h2,_⟩:=hw.obj b c h;exact⟨(qy h1).1,(qy h2).1⟩
 have le:∀b c,R b c->Rnew R w.heap.size w'.heap.size b c:=fun _ _ h=>.inl h
 refine⟨Rnew R w.heap.size w'.heap.size,w'.heap.size,{ w' with heap:=w'.heap.push o' },rfl,⟨fun b c d h k=>?_,fun b c d h k=>?_,fun b c h=>?_,fun b hb=>?_,hw.tape,fun b c h=>?_,by have:=hw.big;simp;omega,by have:=hw.big';simp;omega⟩,
  ⟨le,fun b c h=>h.imp id (fun⟨x,y⟩=>⟨by omega,by omega⟩),by simp,by simp,fun c hc _=>?_,rfl,rfl,rfl,rfl,fun b _ hlt=>(by simp only[Array.getElem?_push];rw[if_neg (by omega)])⟩,?_,.inr ⟨rfl,rfl⟩,.push w ho.noDef⟩
 ·rcases h with h|⟨rfl,rfl⟩<;>rcases k with k|⟨k1,k2⟩
  ·exact hw.fn _ _ _ h k
  ·have:=lt _ _ h;omega
  ·have:=lt _ _ k;omega
  ·exact k2.symm
 ·rcases h with h|⟨rfl,rfl⟩<;>rcases k with k|⟨k1,k2⟩
  ·exact hw.inj _ _ _ h k
  ·have:=lt _ _ h;omega
  ·have:=lt _ _ k;omega
  ·exact k1.symm
 ·rcases h with h|⟨rfl,rfl⟩
  ·obtain⟨x,y,h1,h2,h3⟩:=hw.obj b c h;have:=lt _ _ h;refine⟨x,y,?_,?_,h3.mono le⟩
   ·simp only[Array.getElem?_push];rw[if_neg (by omega)];exact h1
   ·simp only[Array.getElem?_push];rw[if_neg (by omega)];exact h2
  ·exact⟨o,o',by simp,by simp,ho.mono le⟩
 ·obtain⟨c,e,hi,h1,h2⟩:=hw.fz b hb;refine⟨c,e,hi,?_,h2⟩;have:=(qy h1).1;simp only[Array.getElem?_push];rw[if_neg (by omega)];exact h1
 ·rcases h with h|⟨rfl,rfl⟩
  ·exact hw.glob b c h
  ·have:=hw.big;have:=hw.big';omega
 ·simp only[Array.getElem?_push];rw[if_neg (by omega)]
 ·rw[events_newObj];exact xy.nil
theorem qh.shape{b c:Nat}(hr:R b c):qh K P' P R (Go.shape b) (Go.shape c) (fun _ x y=>y=x):=by
 intro w w' hw;refine⟨fun x w1 h _=>?_,fun x w1 h _=>(by rw[run_shape]at h;cases h),fun _=>Tp.of (by exact fun _=>trivial) w⟩;rw[run_shape]at h;cases h;refine⟨R,_,w',run_shape P w' c,hw,.refl _ _,by rw[events_shape];exact xy.nil,?_,.refl w⟩;obtain⟨o,o',h1,h2,h3⟩:=hw.obj b c hr;unfold World.shape?;rw[h1,h2]
 cases h3 with
 | cells e a f=>simp[a.size]
 | _=>rfl
theorem FzR.freeze{f f':Nat×Nat}(h:FzR f f')(x n:Nat) :
 FzR (if f.1==f.2 then(x,x+n)else(min f.1 x,max f.2 (x+n))) (if f'.1==f'.2 then(x,x+n)else(min f'.1 x,max f'.2 (x+n))):=by
 unfold FzR at h⊢;simp only[beq_iff_eq];split<;>split<;>simp only<;>omega
theorem zL{w:World}{a:Addr}{n b:Nat}(h:a.block≠b):(w.freeze a n).heap[b]? = w.heap[b]? := by
 unfold World.freeze;split
 ·rfl
 ·simp only[Array.getElem?_modify,if_neg h]
theorem xg{w:World}{a:Addr}{n:Nat}(hn:n≠0):(w.freeze a n).heap[a.block]? = (w.heap[a.block]?).map fun
 | .cells c e f=>.cells c e (if f.1==f.2 then(a.off,a.off+n)else(min f.1 a.off,max f.2 (a.off+n)))
 | o=>o:=by
 unfold World.freeze;rw[if_neg hn];simp only[Array.getElem?_modify,if_true]
 cases w.heap[a.block]? with
 | none=>rfl
 | some o=>cases o<;>rfl
theorem Xk(w:World)(a:Addr)(n:Nat):(w.freeze a n).heap.size=w.heap.size:=by
 unfold World.freeze;split<;>simp
theorem qh.freeze{a a':Addr}{n:Nat}(ha:qW R a a')(hz:¬K.Fz a.block):qh K P' P R (Go.freeze a n) (Go.freeze a' n) (fun _ _ _=>True):=by
 intro w w' hw;refine⟨fun x w1 h _=>?_,fun x w1 h _=>(by rw[run_freeze]at h;cases h),fun _=>Tp.of (by exact trivial) w⟩;rw[run_freeze]at h;cases h
 have hkeep:QC w (w.freeze a n):=fun h b x e=>by
  by_cases hb:a.block=b
  ·subst hb;by_cases hn:n=0
   ·subst hn;exact h _ x (by simpa[World.freeze]using e)
   ·rw[xg hn]at e
    cases e1:w.heap[a.block]? with
    | none=>rw[e1]at e;cases e
    | some o =>
      rw[e1]at e
      cases o<;>simp only[Option.map_some,Option.some.injEq]at e<;>first
       | (cases e;done)
       | (cases e;exact h _ x e1)
  ·rw[zL hb]at e;exact h b x e
 by_cases hn:n=0
 ·subst hn;refine⟨R,(),w',by rw[run_freeze];simp[World.freeze],by simpa[World.freeze]using hw,?_,by rw[events_freeze];exact xy.nil,trivial,hkeep⟩;simpa[World.freeze]using Ext.refl (K:=K) (R:=R) w w'
 refine⟨R,(),w'.freeze a' n,run_freeze P w' a' n,⟨hw.fn,hw.inj,fun b c hr=>?_,fun b hb=>?_,fun i q hi=>?_,hw.glob,by rw[Xk];exact hw.big,by rw[Xk];exact hw.big'⟩,⟨fun _ _ h=>h,fun _ _ h=>.inl h,?_,?_,fun c _ hb=>?_,?_,?_,?_,?_,fun b hb _=>zL fun e=>hz (e▸hb)⟩,by rw[events_freeze];exact xy.nil,trivial,hkeep⟩
 ·by_cases e:a.block=b
  ·subst e;obtain rfl:=hw.fn _ _ _ hr ha.1;obtain⟨o,o',h1,h2,h3⟩:=hw.obj _ _ hr;rw[xg hn,xg hn,h1,h2];refine⟨_,_,rfl,rfl,?_⟩
   cases h3 with
   | cells e x f=>simp only[ha.2.1];exact .cells e x (f.freeze _ _)
   | map k s e=>exact .map k s e
   | loop l=>exact .loop l
   | deferred=>exact .deferred
   | taken=>exact .taken
   | stringIter s n=>exact .stringIter s n
   | number l a=>exact .number l a
  ·have e':a'.block≠c:=fun x=>e (hw.inj _ _ _ (x▸ha.1) hr);rw[zL e,zL e'];exact hw.obj b c hr
 ·rw[zL fun e=>hz (e▸hb)];exact hw.fz b hb
 ·rw[yY]at hi⊢;rw[yY];simpa[World.freeze,hn]using hw.tape i q hi
 ·unfold World.freeze;split<;>simp
 ·unfold World.freeze;split<;>simp
 ·exact zL fun e=>hz (hb _ (e▸ha.1))
 all_goals(unfold World.freeze;split<;>rfl)
theorem Zi{P:Program}{w w1:World}{r:Nat}{o:Obj}(h:(Go.getObj r).run P w=.ok o w1):w1=w/\w.heap[r]? = some o/\(∀c e f,o≠.cells c e f):=by
 unfold Go.getObj at h;simp only[Sem.run]at h;split at h
 ·cases h
 ·rename_i o' hne e;cases h;exact⟨rfl,e,fun c t f he=>by subst he;exact hne c t f rfl⟩
 ·cases h
theorem JC{P:Program}{w:World}{r:Nat}{o:Obj}(h:w.heap[r]? = some o)(hn:∀c e f,o≠.cells c e f):(Go.getObj r).run P w=.ok o w:=by
 unfold Go.getObj;simp only[Sem.run,h];all_goals cases o<;>first|rfl|exact absurd rfl (hn _ _ _)
theorem Yg{P:Program}{w:World}{r:Nat}{o:Obj}(h:w.heap[r]? = some o)(hn:∀c e f,o≠.cells c e f)(hc:o.isChan=false):(Go.getObj r).events P w #[]=#[⟨.obj r,false,false⟩]:=by
 unfold Go.getObj Sem.events;simp only[Sem.runT,h];cases o<;>first|rfl|exact absurd rfl (hn _ _ _)|(simp[Obj.isChan]at hc)
theorem qh.getObj{b c:Nat}(hr:R b c):qh K P' P R (Go.getObj b) (Go.getObj c) (fun R1 o o'=>OR K.C K.D R1 o o'/\∀x e f,o≠.cells x e f):=by
 intro w w' hw;refine⟨fun o w1 h _=>?_,fun x w1 h _=>?_,fun _=>Tp.of (by exact fun _=>trivial) w⟩;rotate_left
 ·unfold Go.getObj at h;simp only[Sem.run]at h;split at h<;>(cases h;first|exact .refl w rfl|skip)
 obtain⟨rfl,h1,hn⟩:=Zi h;obtain⟨o1,o',e1,e2,h3⟩:=hw.obj b c hr;rw[h1]at e1;cases e1;have hn':∀x e f,o'≠.cells x e f:=fun x e f he=>by subst he;cases h3 with|cells=>exact hn _ _ _ rfl
 refine⟨R,o',w',JC e2 hn',hw,.refl _ _,?_,⟨h3,hn⟩,.refl _⟩;rw[Yg e2 hn' h3.noChan];exact xy.one (.obj c false b hr (by simp))
theorem qh.setObj{b c:Nat}{o o':Obj}(hr:R b c)(ho:OR K.C K.D R o o')(hn:∀x e f,o≠.cells x e f):qh K P' P R (Go.setObj b o) (Go.setObj c o') (fun _ _ _=>True):=by
 intro w w' hw;refine⟨fun u w1 h _=>?_,fun x w1 h _=>?_,fun _=>Tp.of (by exact trivial) w⟩;rotate_left
 ·unfold Go.setObj at h;simp only[Sem.run]at h;split at h<;>(cases h;first|exact .refl w rfl|skip)
 have hn':∀x e f,o'≠.cells x e f:=fun x e f he=>by subst he;cases ho with|cells=>exact hn _ _ _ rfl
 unfold Go.setObj at h;simp only[Sem.run]at h;obtain⟨o1,o1',e1,e2,h3⟩:=hw.obj b c hr;rw[e1]at h
 have hz:¬K.Fz b:=fun hz=>by
  obtain⟨x,e,hi,hh,_⟩:=hw.fz b hz;rw[e1]at hh;cases hh;cases h
 have hlt:b<w.heap.size:=(qy e1).1;have hlt':c<w'.heap.size:=(qy e2).1;have hcell:∀x e f,o1≠.cells x e f:=fun x e f he=>by subst he;cases h
 have hcell':∀x e f,o1'≠.cells x e f:=fun x e f he=>by subst he;cases h3 with|cells=>exact hcell _ _ _ rfl
 have hw1:w1={ w with heap:=w.heap.setIfInBounds b o }:=by
  cases o1<;>first|(cases h;rfl)|exact absurd rfl (hcell _ _ _)
 subst hw1;refine⟨R,(),{ w' with heap:=w'.heap.setIfInBounds c o' },?_,⟨hw.fn,hw.inj,fun x y hxy=>?_,fun x hx=>?_,hw.tape,hw.glob,by simpa using hw.big,by simpa using hw.big'⟩,⟨fun _ _ h=>h,fun _ _ h=>.inl h,by simp,by simp,fun y _ hb=>?_,rfl,rfl,rfl,rfl,fun x hx _=>qJ fun(z:b=x)=>hz (z▸hx)⟩,?_,trivial,?_⟩
 ·unfold Go.setObj;simp only[Sem.run,e2];all_goals cases o1'<;>first|rfl|exact absurd rfl (hcell' _ _ _)
 ·by_cases e:b=x
  ·subst e;obtain rfl:=hw.fn _ _ _ hr hxy;exact⟨o,o',by simp[hlt],by simp[hlt'],ho⟩
  ·have e':c≠y:=fun z=>e (hw.inj _ _ _ (z▸hr) hxy);simp only[qJ e,qJ e'];exact hw.obj x y hxy
 ·have e:b≠x:=fun z=>hz (z▸hx);simp only[qJ e];exact hw.fz x hx
 ·have e:c≠y:=fun z=>hz (hb b (z▸hr));simp only[qJ e]
 ·unfold Go.setObj Sem.events;simp only[Sem.runT,e2]
  cases o1'<;>first
   | exact absurd rfl (hcell' _ _ _)
   | (simp only[ho.noChan];exact xy.one (.obj c true b hr (fun _=>hz)))
 ·intro hd i x e;simp only[Array.getElem?_setIfInBounds]at e;split at e
  ·first
    | (cases e;exact ho.noDef x rfl)
    | (split at e
       ·cases e;exact ho.noDef x rfl
       ·cases e)
  ·exact hd i x e
theorem qh.choose(q:Question):qh K P' P R (Go.choose q) (Go.choose q) (fun _ x y=>y=x):=by
 intro w w' hw;refine⟨fun x w1 h hd=>?_,fun x w1 h _=>(by rw[run_choose]at h;split at h<;>cases h),fun _=>Tp.of (by exact fun _=>trivial) w⟩;rw[run_choose]at h;by_cases hq:q.forced=true
 ·rw[if_pos hq]at h;cases h;exact⟨R,0,w',by rw[run_choose,if_pos hq],hw,.refl _ _,by rw[events_choose];exact xy.nil,rfl,.refl w⟩
 ·rw[if_neg hq]at h;cases h;simp only at hd;have e:w'.tape w'.drawn q=w.tape w.drawn q:=by simpa using hw.tape 0 q (by omega)
  refine⟨R,q.cut (w.tape w.drawn q),{ w' with drawn:=w'.drawn+1 },by rw[run_choose,if_neg hq,e],⟨hw.fn,hw.inj,hw.obj,hw.fz,fun i q' hi=>?_,hw.glob,hw.big,hw.big'⟩,⟨fun _ _ h=>h,fun _ _ h=>.inl h,ql,ql,fun _ _ _=>rfl,rfl,rfl,rfl,rfl,fun _ _ _=>rfl⟩,by rw[events_choose];exact xy.nil,rfl,fun h=>h⟩;have:=hw.tape (i+1) q' (by simp at hi;omega);simpa[Nat.add_assoc,Nat.add_comm 1 i]using this
theorem qh.askRoom(n:Nat):qh K P' P R (Go.askRoom n) (Go.askRoom n) (fun _ _ _=>True):=by
 intro w w' hw;refine⟨fun x w1 h _=>?_,fun x w1 h _=>(by rw[run_askRoom]at h;cases h),fun _=>Tp.of (by unfold Go.askRoom;split<;>trivial) w⟩;rw[run_askRoom]at h;cases h;refine⟨R,(),w',run_askRoom P w' n,hw,.refl _ _,?_,trivial,.refl w⟩;unfold Go.askRoom;split
 ·rw[events_mark];exact xy.one .room
 ·rw[Sem.events_pure];exact xy.nil
structure Same (P' P:Program):Prop where
 tables:P'.toTables=P.toTables
 zero:∀t i v,P.info? t=some i->i.zero=some v->jJ v
theorem Same.info(S:Same P' P)(t:TypeId):P'.info? t=P.info? t:=by
 obtain⟨T',f'⟩:=P';obtain⟨T,f⟩:=P;have h:=S.tables;simp only at h;subst h;rfl
theorem Same.und(S:Same P' P)(t:TypeId):P'.underlying t=P.underlying t:=by
 obtain⟨T',f'⟩:=P';obtain⟨T,f⟩:=P;have h:=S.tables;simp only at h;subst h;rfl
theorem qh.same{α:Type}{s:Sem α}(f:Program->Except Halt α)(hs:∀P w,s.run P w=match f P with | .ok a=>.ok a w | .error h=>.halt h w)(he:∀P w,s.events P w #[]=#[])(hf:f P'=f P)(ht:∀h,f P'=.error h->xM h=true)(hn:zD s) :
 qh K P' P R s s (fun _ x y=>y=x/\f P=.ok x):=by
 intro w w' hw;refine⟨fun x w1 h _=>?_,fun x w1 h _=>?_,fun _=>Tp.of hn w⟩;rotate_left
 ·rw[hs]at h
  cases e:f P' with
  | error y=>rw[e]at h;cases h;exact .refl w (ht _ e)
  | ok a=>rw[e]at h;cases h
 rw[hs]at h
 cases e:f P' with
 | error y=>rw[e]at h;cases h
 | ok a =>
   rw[e]at h;cases h;exact⟨R,x,w',by rw[hs,<-hf,e],hw,.refl _ _,by rw[he];exact xy.nil,⟨rfl,hf▸e⟩,.refl w⟩
theorem qh.underlying(S:Same P' P)(t:TypeId):qh K P' P R (Go.underlying t) (Go.underlying t) (fun _ x y=>y=x/\P.underlying t=some x):=by
 refine(qh.same (fun p=>match p.underlying t with|some d=>.ok d|none=>.error (.stuck "no such type")) (fun P w=>?_) (fun P w=>by rw[events_underlying]) (by simp only[S.und]) (fun h e=>by split at e<;>cases e;rfl) (by exact zD.bind (fun P=>trivial) fun P=>by split<;>trivial)).mono fun R1 a b _ h=>⟨h.1,?_⟩
 ·unfold Go.underlying;simp only[Sem.run_bind,run_program,Result.andThen_ok];cases P.underlying t<;>rfl
 ·have:=h.2
  cases e:P.underlying t with
  | none=>rw[e]at this;cases this
  | some d=>rw[e]at this;cases this;rfl
theorem qh.typeInfo(S:Same P' P)(t:TypeId):qh K P' P R (Go.typeInfo t) (Go.typeInfo t) (fun _ x y=>y=x/\P.info? t=some x):=by
 refine(qh.same (fun p=>match p.info? t with|some d=>.ok d|none=>.error (.stuck "no such type")) (fun P w=>?_) (fun P w=>by rw[events_typeInfo]) (by simp only[S.info]) (fun h e=>by split at e<;>cases e;rfl) (by exact zD.bind (fun P=>trivial) fun P=>by split<;>trivial)).mono fun R1 a b _ h=>⟨h.1,?_⟩
 ·unfold Go.typeInfo;simp only[Sem.run_bind,run_program,Result.andThen_ok];cases P.info? t<;>rfl
 ·have:=h.2
  cases e:P.info? t with
  | none=>rw[e]at this;cases this
  | some d=>rw[e]at this;cases this;rfl
theorem qh.sizeOf(S:Same P' P)(t:TypeId):qh K P' P R (Go.sizeOf t) (Go.sizeOf t) (fun _ x y=>y=x):=by
 unfold Go.sizeOf;exact(qh.typeInfo S t).bind fun R1 a b _ h=>.pure (by rw[h.1])
theorem qh.isAgg(S:Same P' P)(t:TypeId):qh K P' P R (Go.isAgg t) (Go.isAgg t) (fun _ x y=>y=x):=by
 unfold Go.isAgg;exact(qh.underlying S t).bind fun R1 a b _ h=>by rw[h.1];cases a<;>exact .pure rfl
theorem qh.zeroValue(S:Same P' P)(t:TypeId):qh K P' P R (Go.zeroValue t) (Go.zeroValue t) (fun R1 x y=>y=x/\VR K.C R1 x y):=by
 unfold Go.zeroValue;refine(qh.typeInfo S t).bind fun R1 a b _ h=>?_;obtain⟨rfl,hi⟩:=h
 cases e:b.zero with
 | none=>exact .unsupported
 | some v=>exact .pure ⟨rfl,S.zero t b v hi e _ _⟩
end
section
variable {K:Cfg} {P' P:Program} {R:Nat->Nat->Prop}
theorem qh.loadCellsFrom{a a':Addr}(i n:Nat){acc acc':Array Value}(ha:qW R a a')(hc:AR K.C R acc acc') :
 qh K P' P R (Go.loadCellsFrom a i n acc) (Go.loadCellsFrom a' i n acc') (fun R1 x y=>AR K.C R1 x y):=by
 induction n generalizing i acc acc' R with
 | zero=>exact .pure hc
 | succ n ih =>
   unfold Go.loadCellsFrom;exact(qh.load (ha.add i)).bind fun R1 v v' h hv=>ih (i+1) (ha.mono h) ((hc.mono h).push hv)
theorem qh.loadCells{a a':Addr}(n:Nat)(ha:qW R a a'):qh K P' P R (Go.loadCells a n) (Go.loadCells a' n) (fun R1 x y=>AR K.C R1 x y):=by
 unfold Go.loadCells;exact qh.loadCellsFrom 0 n ha .nil
theorem qh.storeCells{a a':Addr}:∀(l l':List Value) (i:Nat) {R:Nat->Nat->Prop},qW R a a'->l.length=l'.length->(∀(n:Nat) (x x':Value),l[n]? = some x->l'[n]? = some x'->VR K.C R x x') ->
 qh K P' P R (Go.storeCells a l i) (Go.storeCells a' l' i) (fun _ _ _=>True)
 | [],[],_,_,_,_,_=>by unfold Go.storeCells;exact .pure trivial
 | [],_::_,_,_,_,h,_=>by simp at h
 | _::_,[],_,_,_,h,_=>by simp at h
 | v::l,v'::l',i,R,ha,h,hv=>by
   unfold Go.storeCells;refine(qh.store (ha.add i) (hv 0 v v' rfl rfl)).bind fun R1 _ _ hR _=>qh.storeCells l l' (i+1) (ha.mono hR) (by simpa using h) fun n x x' hx hx'=>(hv (n+1) x x' (by simpa using hx) (by simpa using hx')).mono hR
theorem AR.toList{C:FuncId->Prop}{xs xs':Array Value}(h:AR C R xs xs'):xs.toList.length=xs'.toList.length/\∀(n:Nat) (x x':Value),xs.toList[n]? = some x->xs'.toList[n]? = some x'->VR C R x x' :=
 ⟨by simpa using h.size,fun n x x' a b=>h.el n x x' (by simpa using a) (by simpa using b)⟩
theorem qh.loadVar(S:Same P' P)(t:TypeId){a a':Addr}(ha:qW R a a'):qh K P' P R (Go.loadVar t a) (Go.loadVar t a') (fun R1 x y=>VR K.C R1 x y):=by
 unfold Go.loadVar;refine(qh.isAgg S t).bind fun R1 b b' h e=>?_;subst e;split
 ·refine(qh.sizeOf S t).bind fun R2 n n' h2 e=>?_;subst e;exact(qh.loadCells _ ((ha.mono h).mono h2)).bind fun R3 x y _ hx=>.pure hx.agg
 ·exact qh.load (ha.mono h)
theorem qh.storeVar(S:Same P' P)(t:TypeId){a a':Addr}{v v':Value}(ha:qW R a a')(hv:VR K.C R v v'):qh K P' P R (Go.storeVar t a v) (Go.storeVar t a' v') (fun _ _ _=>True):=by
 unfold Go.storeVar;refine(qh.sizeOf S t).bind fun R1 n n' h e=>?_;subst e;have hc:=(hv.mono h).cells;rw[hc.size];split
 ·exact .stuck
 ·exact qh.storeCells _ _ 0 (ha.mono h) hc.toList.1 hc.toList.2
theorem FzR.none:FzR (0,0) (0,0):=.inl ⟨ql,ql,.inl rfl⟩
theorem qh.newRow(t:TypeId){xs xs':Array Value}(h:AR K.C R xs xs'):qh K P' P R (Go.newRow t xs) (Go.newRow t xs') (fun R1 a a'=>qW R1 a a'):=by
 unfold Go.newRow;exact(qh.newObj (.cells t h .none)).bind fun R1 r r' _ hr=>.pure (.none hr)
theorem qh.newVar(t:TypeId){v v':Value}(h:VR K.C R v v'):qh K P' P R (Go.newVar t v) (Go.newVar t v') (fun R1 a a'=>qW R1 a a'):=by
 unfold Go.newVar;exact qh.newRow t h.cells
theorem qh.part(S:Same P' P)(t:TypeId){cs cs':Array Value}(off:Nat)(h:AR K.C R cs cs'):qh K P' P R (Go.part t cs off) (Go.part t cs' off) (fun R1 x y=>VR K.C R1 x y):=by
 unfold Go.part;refine(qh.isAgg S t).bind fun R1 b b' hR e=>?_;subst e;split
 ·refine(qh.sizeOf S t).bind fun R2 n n' h2 e=>?_;subst e;exact .pure (((h.mono hR).mono h2).extract _ _).agg
 ·cases e:cs[off]? with
  | none=>exact .stuck
  | some v =>
    obtain⟨v',e',hv⟩:=h.get e;rw[e'];exact .pure (hv.mono hR)
theorem qh.asIntOf{v v':Value}(h:VR K.C R v v'):qh K P' P R (Go.asIntOf v) (Go.asIntOf v') (fun _ x y=>y=x):=by
 cases h<;>first
  | exact .pure rfl
  | exact .unsupported
  | exact .stuck
theorem qh.asInt{v v':Value}(h:VR K.C R v v'):qh K P' P R (Go.asInt v) (Go.asInt v') (fun _ x y=>y=x):=by
 unfold Go.asInt;exact(qh.asIntOf h).bind fun _ _ _ _ e=>.pure (by rw[e])
theorem qh.asBool{v v':Value}(h:VR K.C R v v'):qh K P' P R (Go.asBool v) (Go.asBool v') (fun _ x y=>y=x):=by
 cases h<;>first
  | exact .pure rfl
  | exact .stuck
theorem qh.asAgg{v v':Value}(h:VR K.C R v v'):qh K P' P R (Go.asAgg v) (Go.asAgg v') (fun R1 x y=>AR K.C R1 x y):=by
 cases h<;>first
  | exact .pure ⟨by assumption,by assumption⟩
  | exact .stuck
theorem qh.sureAddr{v v':Value}(h:VR K.C R v v'):qh K P' P R (Instr.sureAddr v) (Instr.sureAddr v') (fun R1 x y=>qW R1 x y):=by
 cases h with
 | ptr a=>exact .pure a
 | _=>exact .stuck
theorem qh.asAddr{v v':Value}(h:VR K.C R v v'):qh K P' P R (Go.asAddr v) (Go.asAddr v') (fun R1 x y=>qW R1 x y):=by
 cases h with
 | ptr a=>exact .pure a
 | pnil=>exact qh.runtimePanic (e:=.nilDeref) (α:=Addr)
 | _=>exact .stuck
theorem qh.forList{γ σ:Type}(l:List γ){f f':γ->σ->Sem (ForInStep σ)}{R:Nat->Nat->Prop}(s:σ)
 (h:∀(R1:Nat->Nat->Prop),(∀b c,R b c->R1 b c)->∀x∈l,∀s,qh K P' P R1 (f x s) (f' x s) (fun _ a b=>b=a)):qh K P' P R (forIn l s f) (forIn l s f') (fun _ a b=>b=a):=by
 induction l generalizing s R with
 | nil=>simp only[List.forIn_nil];exact .pure rfl
 | cons x l ih =>
   simp only[List.forIn_cons];refine(h R (fun _ _ h=>h) x (by simp) s).bind fun R1 a b hR e=>?_;subst e
   cases b with
   | done b=>exact .pure rfl
   | «yield» b=>exact ih b (fun R2 h2 y hy s=>h R2 (fun _ _ k=>h2 _ _ (hR _ _ k)) y (by simp[hy]) s)
theorem qh.forArray{γ σ:Type}(l:Array γ){f f':γ->σ->Sem (ForInStep σ)}(s:σ)
 (h:∀(R1:Nat->Nat->Prop),(∀b c,R b c->R1 b c)->∀x∈l,∀s,qh K P' P R1 (f x s) (f' x s) (fun _ a b=>b=a)):qh K P' P R (forIn l s f) (forIn l s f') (fun _ a b=>b=a):=by
 rw[<-Array.forIn_toList,<-Array.forIn_toList];exact qh.forList l.toList s (fun R1 hR x hx s=>h R1 hR x (by simpa using hx) s)
theorem qh.mapMList{γ δ:Type}(l:List γ){f f':γ->Sem δ}{R:Nat->Nat->Prop}(h:∀(R1:Nat->Nat->Prop),(∀b c,R b c->R1 b c)->∀x∈l,qh K P' P R1 (f x) (f' x) (fun _ a b=>b=a)) :
 qh K P' P R (l.mapM f) (l.mapM f') (fun _ a b=>b=a):=by
 induction l generalizing R with
 | nil=>simp only[List.mapM_nil];exact .pure rfl
 | cons x l ih =>
   simp only[List.mapM_cons];refine(h R (fun _ _ h=>h) x (by simp)).bind fun R1 a b hR e=>?_;subst e;exact(ih fun R2 h2 y hy=>h R2 (fun _ _ k=>h2 _ _ (hR _ _ k)) y (by simp[hy])).bind fun R2 c d h2 e=>by subst e;exact .pure rfl
theorem qh.mapMArray{γ δ:Type}(l:Array γ){f f':γ->Sem δ}(h:∀(R1:Nat->Nat->Prop),(∀b c,R b c->R1 b c)->∀x∈l,qh K P' P R1 (f x) (f' x) (fun _ a b=>b=a)) :
 qh K P' P R (l.mapM f) (l.mapM f') (fun _ a b=>b=a):=by
 rw[Array.mapM_eq_mapM_toList,Array.mapM_eq_mapM_toList];have:=qh.mapMList (K:=K) (P':=P') (P:=P) l.toList (f:=f) (f':=f') (R:=R) (fun R1 hR x hx=>h R1 hR x (by simpa using hx));rw[map_eq_pure_bind,map_eq_pure_bind];exact this.bind fun R1 a b _ e=>by subst e;exact .pure rfl
end
end Go.Sim
namespace Go.Sim
open Go Go.Instr
section
variable {K:Cfg} {P' P:Program} {R:Nat->Nat->Prop}
theorem qh.alloc(S:Same P' P)(t:TypeId):qh K P' P R (Instr.alloc t true (.tuple #[])) (Instr.alloc t true (.tuple #[])) (fun R1 x y=>VR K.C R1 x y):=by
 unfold Instr.alloc;refine(qh.zeroValue S t).bind fun R1 z z' h e=>?_;exact(qh.newVar t e.2).bind fun R2 a a' _ ha=>.pure (.ptr ha)
theorem qh.box(t:TypeId){v v':Value}(h:VR K.C R v v'):qh K P' P R (Instr.box t v) (Instr.box t v') (fun R1 x y=>VR K.C R1 x y):=by
 unfold Instr.box;exact(qh.newVar t h).bind fun R2 a a' _ ha=>.pure (.ptr ha)
inductive PartsR (C:FuncId->Prop) (R:Nat->Nat->Prop):List (Nat×Value)->List (Nat×Value)->Prop
 | nil:PartsR C R [] []
 | cons (i:Nat) {v v':Value} {l l':List (Nat×Value)}:VR C R v v'->PartsR C R l l'->PartsR C R ((i,v)::l) ((i,v')::l')
theorem PartsR.mono{C:FuncId->Prop}{R R1:Nat->Nat->Prop}(h:∀b c,R b c->R1 b c){l l':List (Nat×Value)}(x:PartsR C R l l'):PartsR C R1 l l':=by
 induction x with
 | nil=>exact .nil
 | cons i v _ ih=>exact .cons i (v.mono h) ih
theorem PartsR.map{C:FuncId->Prop}{R:Nat->Nat->Prop}(l:List (Nat×Operand)){f g:Operand->Value}(h:∀x∈l,VR C R (f x.2) (g x.2)):PartsR C R (l.map fun x=>(x.1,f x.2)) (l.map fun x=>(x.1,g x.2)):=by
 induction l with
 | nil=>exact .nil
 | cons x l ih=>exact .cons x.1 (h x (by simp)) (ih fun y hy=>h y (by simp[hy]))
theorem fold_set{C:FuncId->Prop}{R:Nat->Nat->Prop}(off:Nat)(l l':List Value)(k:Nat){cs cs':Array Value}(h:l.length=l'.length)(hv:∀(n:Nat) (x x':Value),l[n]? = some x->l'[n]? = some x'->VR C R x x')(hc:AR C R cs cs') :
 AR C R ((l.zipIdx k).foldl (fun cs (x:Value×Nat)=>cs.setIfInBounds (off+x.2) x.1) cs) ((l'.zipIdx k).foldl (fun cs (x:Value×Nat)=>cs.setIfInBounds (off+x.2) x.1) cs'):=by
 induction l generalizing l' k cs cs' with
 | nil=>cases l' with
   | nil=>exact hc
   | cons=>simp at h
 | cons v l ih=>cases l' with
   | nil=>simp at h
   | cons v' l' =>
     simp only[List.zipIdx_cons,List.foldl_cons];exact ih l' (k+1) (by simpa using h) (fun n x x' a b=>hv (n+1) x x' (by simpa using a) (by simpa using b)) (hc.set _ (hv 0 v v' rfl rfl))
theorem Jj{C:FuncId->Prop}{R:Nat->Nat->Prop}(place:Nat->Option (Nat×Nat)){l l':List (Nat×Value)}(hl:PartsR C R l l'):∀{cs cs':Array Value},AR C R cs cs' ->
 (fill place cs l=none/\True)\/∃x x',fill place cs l=some x/\fill place cs' l'=some x'/\AR C R x x':=by
 induction hl with
 | nil=>intro cs cs' h;exact .inr ⟨cs,cs',rfl,rfl,h⟩
 | cons i hv _ ih =>
   rename_i v v' l l' _;intro cs cs' h;unfold fill
   cases place i with
   | none=>exact .inl ⟨rfl,trivial⟩
   | some p =>
     obtain⟨off,size⟩:=p;have hc:=hv.cells;simp only[hc.size,h.size];split
     ·exact .inl ⟨rfl,trivial⟩
     ·have:=fold_set off v.cells.toList v'.cells.toList 0 hc.toList.1 hc.toList.2 h;rw[<-Array.foldl_toList,<-Array.foldl_toList,Array.toList_zipIdx,Array.toList_zipIdx];exact ih this
theorem qh.build(S:Same P' P)(t:TypeId){ps ps':Array (Nat×Value)}(h:PartsR K.C R ps.toList ps'.toList):qh K P' P R (Instr.build t ps) (Instr.build t ps') (fun R1 x y=>VR K.C R1 x y):=by
 unfold Instr.build;refine(qh.zeroValue S t).bind fun R1 z z' hR e=>?_;have hz:=e.2.cells;refine(qh.underlying S t).bind fun R2 d d' h2 e=>?_;obtain⟨rfl,_⟩:=e;have hz2:=hz.mono h2;have hp:=(h.mono hR).mono h2
 cases d' with
 | struct fields =>
   refine(qh.mapMArray fields fun R3 _ f _=>(qh.sizeOf S f.type).bind fun R4 a b _ e=>by subst e;exact .pure rfl).bind fun R5 pl pl' h5 e=>?_;subst e;rcases Jj (fun i=>pl'[i]?) (hp.mono h5) (hz2.mono h5)with⟨e,_⟩|⟨x,x',e1,e2,hx⟩
   ·simp only[e];exact .stuck
   ·simp only[e1,e2];exact .pure hx.agg
 | array n el =>
   refine(qh.sizeOf S el).bind fun R3 s s' h3 e=>?_;subst e;rcases Jj (fun i=>some (i*s',s')) (hp.mono h3) (hz2.mono h3)with⟨e,_⟩|⟨x,x',e1,e2,hx⟩
   ·simp only[e];exact .stuck
   ·simp only[e1,e2];exact .pure hx.agg
 | _=>exact .stuck
theorem AR.getBang{C:FuncId->Prop}{R:Nat->Nat->Prop}{xs xs':Array Value}(h:AR C R xs xs')(i:Nat)(hd:VR C R default default):VR C R xs[i]! xs'[i]! := by
 rw[Array.getElem!_eq_getD,Array.getElem!_eq_getD];exact h.getD i hd
theorem VR.default{C:FuncId->Prop}{R:Nat->Nat->Prop}:VR C R (default:Value) default:=by
 show VR C R (.bool false) (.bool false);exact .bool _
theorem AR.rows{C:FuncId->Prop}{R:Nat->Nat->Prop}{z z':Array Value}(h:AR C R z z')(n:Nat):AR C R ((Array.range n).map (fun i=>z[i%z.size]!)) ((Array.range n).map (fun i=>z'[i%z'.size]!)):=by
 rw[h.size];exact AR.map _ fun i _=>h.getBang _ VR.default
theorem qh.buildSlice(S:Same P' P)(t:TypeId)(n:Nat){ps ps':Array (Nat×Value)}(h:PartsR K.C R ps.toList ps'.toList):qh K P' P R (Instr.buildSlice t n ps) (Instr.buildSlice t n ps') (fun R1 x y=>VR K.C R1 x y):=by
 unfold Instr.buildSlice;refine(qh.underlying S t).bind fun R1 d d' hR e=>?_;obtain⟨rfl,_⟩:=e
 cases d' with
 | slice el =>
   refine(qh.sizeOf S el).bind fun R2 s s' h2 e=>?_;subst e
   have jp:∀(R3:Nat->Nat->Prop) (z z':Array Value),(∀b c,R2 b c->R3 b c)->AR K.C R3 z z'->qh K P' P R3
    (match fill (fun i=>some (i*s',s')) ((Array.range (n*s')).map (z[·%z.size]!)) ps.toList with
      | some cells=>do Pure.pure (Value.slice (some (<-Go.newRow el cells)) n n)
      | _=>Go.stuck "buildSlice: a part of the wrong size")
    (match fill (fun i=>some (i*s',s')) ((Array.range (n*s')).map (z'[·%z'.size]!)) ps'.toList with
      | some cells=>do Pure.pure (Value.slice (some (<-Go.newRow el cells)) n n)
      | _=>Go.stuck "buildSlice: a part of the wrong size") (fun R1 x y=>VR K.C R1 x y):=by
    intro R3 z z' h3 hz;rcases Jj (fun i=>some (i*s',s')) (((h.mono hR).mono h2).mono h3) (hz.rows (n*s'))with⟨e,_⟩|⟨x,x',e1,e2,hx⟩
    ·simp only[e];exact .stuck
    ·simp only[e1,e2];exact(qh.newRow el hx).bind fun R4 a a' _ ha=>.pure (.slice _ _ ha)
   dsimp only;split
   ·exact qh.halted
   ·split
    ·exact(qh.pure (Q:=fun R1 x y=>AR K.C R1 x y) AR.nil).bind fun R3 z z' h3 hz=>jp R3 z z' h3 hz
    ·refine(qh.zeroValue S el).bind fun R3 z z' h3 e=>?_;exact(qh.pure (Q:=fun R1 x y=>AR K.C R1 x y) e.2.cells).bind fun R4 z z' h4 hz=>jp R4 z z' (fun _ _ k=>h4 _ _ (h3 _ _ k)) hz
 | _=>exact .stuck
theorem qh.loadAt(S:Same P' P)(t:TypeId){v v':Value}(h:VR K.C R v v'):qh K P' P R (Instr.loadAt t v) (Instr.loadAt t v') (fun R1 x y=>VR K.C R1 x y):=by
 unfold Instr.loadAt;exact(qh.sureAddr h).bind fun R1 a a' _ ha=>qh.loadVar S t ha
theorem qh.storeAt(S:Same P' P)(t:TypeId){v v' x x':Value}(h:VR K.C R v v')(hx:VR K.C R x x'):qh K P' P R (Instr.storeAt t v x) (Instr.storeAt t v' x') (fun _ _ _=>True):=by
 unfold Instr.storeAt;exact(qh.sureAddr h).bind fun R1 a a' hR ha=>qh.storeVar S t ha (hx.mono hR)
def qex(P:Program)(s:TypeId)(i:Nat):Bool :=
 match P.underlying s with
 | some (.struct fs)=>match fs[i]? with
   | some f=>match P.info? f.type with
     | some d=>d.size != 0
     | none=>false
   | none=>false
 | _=>false
theorem qh.sizeOf'(S:Same P' P)(t:TypeId):qh K P' P R (Go.sizeOf t) (Go.sizeOf t) (fun _ x y=>y=x/\∃d,P.info? t=some d/\d.size=x):=by
 unfold Go.sizeOf;exact(qh.typeInfo S t).bind fun R1 a b _ h=>.pure ⟨by rw[h.1],a,h.2,rfl⟩
theorem qh.fieldAt(S:Same P' P)(s:TypeId)(i:Nat)(hf:qex P s i=true){v v':Value}(h:VR K.C R v v'):qh K P' P R (Instr.fieldAt s v i) (Instr.fieldAt s v' i) (fun R1 x y=>VR K.C R1 x y):=by
 unfold Instr.fieldAt;refine(qh.underlying S s).bind fun R1 d d' hR e=>?_;obtain⟨rfl,hd⟩:=e
 cases d' with
 | struct fs =>
   dsimp only
   cases e:fs[i]? with
   | none=>exact .stuck
   | some f =>
     dsimp only;refine(qh.sureAddr (h.mono hR)).bind fun R2 a a' h2 ha=>?_;refine qh.bind (Q:=fun R1 x y=>qW R1 x y) ?_ fun R3 x y _ hx=>.pure (.ptr hx);unfold Go.fieldPlace;refine(qh.sizeOf' S f.type).bind fun R3 n n' h3 e2=>?_;obtain⟨rfl,di,e3,e4⟩:=e2
     have hn:n'≠0:=by
      simp only[qex,hd,e,e3]at hf;rw[e4]at hf;simpa using hf
     simp only[hn,if_false];exact .pure ((ha.mono h3).add _)
 | _=>exact .stuck
theorem qh.indexAt(S:Same P' P)(t:TypeId){v v' x x':Value}(h:VR K.C R v v')(hx:VR K.C R x x'):qh K P' P R (Instr.indexAt t v x) (Instr.indexAt t v' x') (fun R1 x y=>VR K.C R1 x y):=by
 unfold Instr.indexAt;refine(qh.asIntOf hx).bind fun R1 ki ki' hR e=>?_;subst e;obtain⟨k,i⟩:=ki';dsimp only;refine(qh.underlying S t).bind fun R2 d d' h2 e=>?_;obtain⟨rfl,hd⟩:=e;have hv:=(h.mono hR).mono h2
 have tail:∀(R3:Nat->Nat->Prop),(∀b c,R2 b c->R3 b c)->∀(base base':Option Addr) (len:Nat) (elem:TypeId),(base=none/\base'=none\/(∃a a',base=some a/\base'=some a'/\qW R3 a a')\/len=0/\∃a,base=some a/\base'=some a) ->
  qh K P' P R3 (do
   let tiny:=len<=1&&(match <-Go.underlying t with | .array ..=>true|_=>false)
   match base with
   | some a =>
     if 0<=i/\i<len then Pure.pure (Value.pointer (some (a.add (i.toNat*(<-Go.sizeOf elem)))))
     else if tiny then Go.unsupported (.noEntry "op/indexAddr.an index out of range at an array of length 0 or 1 (ledger 616)")
     else Go.boundsPanic k i len .index
   | none=>Go.boundsPanic k i 0 .index) (do
   let tiny:=len<=1&&(match <-Go.underlying t with | .array ..=>true|_=>false)
   match base' with
   | some a =>
     if 0<=i/\i<len then Pure.pure (Value.pointer (some (a.add (i.toNat*(<-Go.sizeOf elem)))))
     else if tiny then Go.unsupported (.noEntry "op/indexAddr.an index out of range at an array of length 0 or 1 (ledger 616)")
     else Go.boundsPanic k i len .index
   | none=>Go.boundsPanic k i 0 .index) (fun R1 x y=>VR K.C R1 x y):=by
  intro R3 _ base base' len elem hb;refine(qh.underlying S t).bind fun R4 d d' h4 e=>?_;obtain⟨rfl,_⟩:=e;rcases hb with⟨rfl,rfl⟩|⟨a,a',rfl,rfl,ha⟩|⟨rfl,a,rfl,rfl⟩
  ·exact .boundsPanic
  ·dsimp only;split
   ·exact(qh.sizeOf S elem).bind fun R5 n n' h5 e=>by subst e;exact .pure (.ptr (((ha.mono h4).mono h5).add _))
   ·split;all_goals(split;(first|exact qh.unsupported|exact qh.boundsPanic);(first|exact qh.unsupported|exact qh.boundsPanic))
  ·dsimp only;split
   ·rename_i h;exact absurd h (by omega)
   ·split;all_goals(split;(first|exact qh.unsupported|exact qh.boundsPanic);(first|exact qh.unsupported|exact qh.boundsPanic))
 cases d' with
 | array len elem =>
   dsimp only;refine(qh.sureAddr hv).bind fun R3 a a' h3 ha=>?_;exact tail R3 h3 (some a) (some a') len elem (.inr (.inl ⟨a,a',rfl,rfl,ha⟩))
 | slice elem =>
   cases hv with
   | snil l c=>exact tail R2 (fun _ _ h=>h) none none l elem (.inl ⟨rfl,rfl⟩)
   | slice l c ha=>exact tail R2 (fun _ _ h=>h) _ _ l elem (.inr (.inl ⟨_,_,rfl,rfl,ha⟩))
   | zcap a=>exact tail R2 (fun _ _ h=>h) _ _ 0 elem (.inr (.inr ⟨rfl,a,rfl,rfl⟩))
   | _=>exact qh.halted
 | _=>exact qh.halted
end
section
variable {P' P:Program}
theorem Same.cellsOf(S:Same P' P)(t:TypeId):P'.cellsOf t=P.cellsOf t:=by unfold Program.cellsOf;rw[S.info]
theorem Same.bytesOf(S:Same P' P)(t:TypeId):P'.bytesOf t=P.bytesOf t:=by unfold Program.bytesOf;rw[S.info]
theorem Same.depth(S:Same P' P):P'.depth=P.depth:=by unfold Program.depth;rw[S.tables]
theorem Same.globals(S:Same P' P):P'.globals=P.globals:=by rw[S.tables]
theorem Same.byteOfCell(S:Same P' P):∀(d:Nat) (t:TypeId) (o:Nat),Go.byteOfCell P' d t o=Go.byteOfCell P d t o
 | 0,_,_=>rfl
 | d+1,t,o=>by
   have ih:=Same.byteOfCell S d;unfold Go.byteOfCell;rw[S.und]
   cases P.underlying t with
   | none=>rfl
   | some x =>
     cases x<;>try rfl
     ·simp only[S.cellsOf,S.bytesOf,ih]
     ·simp only[S.cellsOf,ih]
theorem Same.underlyingId(S:Same P' P)(t:TypeId):P'.underlyingId t=P.underlyingId t:=by unfold Program.underlyingId;rw[S.info]
theorem Same.alike(S:Same P' P):∀(n:Nat) (t u:TypeId),P'.alikeButTags n t u=P.alikeButTags n t u
 | 0,_,_=>rfl
 | n+1,t,u=>by
   have ih:=Same.alike S n;unfold Program.alikeButTags;simp only[S.info,ih]
theorem Same.stoodInHeld(S:Same P' P)(t:TypeId):P'.stoodInHeld t=P.stoodInHeld t:=by
 unfold Program.stoodInHeld Program.stoodInAs;simp only[S.und,S.depth,S.underlyingId,S.alike,S.tables]
theorem Same.eqGuardType(S:Same P' P):∀(n:Nat) (t:TypeId),P'.eqGuardType n t=P.eqGuardType n t
 | 0,_=>rfl
 | n+1,t=>by
   have ih:=Same.eqGuardType S n;unfold Program.eqGuardType;simp only[S.und,ih]
end
section
variable {K:Cfg} {P' P:Program} {R:Nat->Nat->Prop}
theorem qh.program{α β:Type}{f:Program->Sem α}{f':Program->Sem β}{Q:(Nat->Nat->Prop)->α->β->Prop}(h:qh K P' P R (f P') (f' P) Q):qh K P' P R (Go.program >>= f) (Go.program >>= f') Q:=by
 intro w w' hw;refine⟨fun a w1 hr hd=>?_,fun x w1 hr hd=>?_,fun hd=>(h w w' hw).2.2 hd⟩
 ·rw[Sem.run_bind,run_program,Result.andThen_ok]at hr;obtain⟨R1,b,w1',e,h1,h2,h3,h4,h5⟩:=(h w w' hw).1 a w1 hr hd;refine⟨R1,b,w1',by rw[Sem.run_bind,run_program];exact e,h1,h2,?_,h4,h5⟩;rw[Sem.events_bind,run_program,events_program];exact h3
 ·rw[Sem.run_bind,run_program,Result.andThen_ok]at hr;exact(h w w' hw).2.1 x w1 hr hd
theorem qh.noViewAt{b c:Nat}(hr:R b c):qh K P' P R (Go.viewAt b) (Go.viewAt c) (fun _ x y=>x=none/\y=none):=by
 unfold Go.viewAt;refine(qh.shape hr).bind fun R1 x y h e=>?_;subst e;split
 ·exact .pure ⟨rfl,rfl⟩
 ·refine(qh.getObj (h _ _ hr)).bind fun R2 o o' _ ho=>?_;obtain⟨ho,hn⟩:=ho
  cases ho<;>first
   | exact .pure ⟨rfl,rfl⟩
   | exact absurd rfl (hn _ _ _)
theorem qh.numberAt{b c:Nat}(hr:R b c):qh K P' P R (Go.numberAt b) (Go.numberAt c) (fun R1 x y=>(x=none/\y=none)\/∃a a' l,x=some (a,l)/\y=some (a',l)/\qW R1 a a'):=by
 unfold Go.numberAt;refine(qh.shape hr).bind fun R1 x y h e=>?_;subst e;split
 ·exact .pure (.inl ⟨rfl,rfl⟩)
 ·refine(qh.getObj (h _ _ hr)).bind fun R2 o o' _ ho=>?_;obtain⟨ho,hn⟩:=ho
  cases ho<;>first
   | exact .pure (.inl ⟨rfl,rfl⟩)
   | exact absurd rfl (hn _ _ _)
   | exact .pure (.inr ⟨_,_,_,rfl,rfl,by assumption⟩)
theorem qh.behindNumber{a a':Addr}(ha:qW R a a'):qh K P' P R (Go.behindNumber a) (Go.behindNumber a') (fun R1 x y=>qW R1 x.1 y.1/\y.2=x.2):=by
 unfold Go.behindNumber;refine(qh.numberAt ha.1).bind fun R1 x y h e=>?_;rcases e with⟨rfl,rfl⟩|⟨b,b',l,rfl,rfl,hb⟩
 ·exact .pure ⟨ha.mono h,rfl⟩
 ·exact .pure ⟨hb,rfl⟩
theorem qh.noView{a a':Addr}(ha:qW R a a'):qh K P' P R (Go.noView a) (Go.noView a') (fun _ _ _=>True):=by
 unfold Go.noView;exact(qh.noViewAt ha.1).bind fun R1 x y _ e=>by obtain⟨rfl,rfl⟩:=e;exact .pure trivial
theorem qh.byteOf(S:Same P' P){a a':Addr}(ha:qW R a a'):qh K P' P R (Go.byteOf a) (Go.byteOf a') (fun _ x y=>y=x):=by
 unfold Go.byteOf;rw[ha.2.2,ha.2.1]
 cases e:a.spot with
 | some s=>exact .pure rfl
 | none =>
   dsimp only;refine qh.program ?_;refine(qh.noView ha).bind fun R1 _ _ h _=>?_;refine(qh.shape (h _ _ ha.1)).bind fun R2 x y h2 e=>?_;subst e
   cases y with
   | none=>exact .stuck
   | some y =>
     obtain⟨t,n⟩:=y;dsimp only;rw[S.cellsOf,S.byteOfCell,S.bytesOf,S.depth];split
     ·exact .pure rfl
     ·cases Go.byteOfCell P P.depth t (a.off%P.cellsOf t)with
      | none=>exact .stuck
      | some b=>exact .pure rfl
def eqT(P:Program):Nat->TypeId->Bool
 | 0,_=>false
 | n+1,t =>
   (match P.info? t with|some i=>(match i.desc with | .named "sync.copyChecker" _=>false|_=>true)|none=>false) &&
   match P.underlying t with
   | some .bool|some (.int _)|some .string=>true
   | some (.struct fs)=>fs.all fun f=>eqT P n f.type
   | some (.array _ e)=>eqT P n e
   | _=>false
theorem qW.beq{a a' b b':Addr}(fn:∀x y z,R x y->R x z->y=z)(inj:∀x y z,R x z->R y z->x=y)(ha:qW R a a')(hb:qW R b b'):(a'==b')=(a==b):=by
 have:(a'=b')↔(a=b):=by
  constructor
  ·rintro rfl;obtain⟨x1,x2,x3⟩:=ha;obtain⟨y1,y2,y3⟩:=hb
   cases a;cases b;simp only at *
   have:=inj _ _ _ x1 y1;subst this;rw[<-x2,<-y2,<-x3,<-y3]
  ·rintro rfl;obtain⟨x1,x2,x3⟩:=ha;obtain⟨y1,y2,y3⟩:=hb
   cases a';cases b';simp only at *
   have:=fn _ _ _ x1 y1;subst this;rw[x2,y2,x3,y3]
 by_cases h:a=b
 ·simp[h,this.2 h]
 ·have h':a'≠b':=fun x=>h (this.1 x);rw[beq_eq_false_iff_ne.2 h,beq_eq_false_iff_ne.2 h']
theorem qh.at{α β:Type}{s:Sem α}{s':Sem β}{Q:(Nat->Nat->Prop)->α->β->Prop}(h:∀w w',WR K R w w'->qh K P' P R s s' Q):qh K P' P R s s' Q :=
 fun w w' hw=>h w w' hw w w' hw
theorem WR.beqBlock{w w':World}(hw:WR K R w w'){a a' b b':Addr}(ha:qW R a a')(hb:qW R b b'):(a'.block==b'.block)=(a.block==b.block):=by
 by_cases e:a.block=b.block
 ·have:a'.block=b'.block:=hw.fn _ _ _ ha.1 (e▸hb.1);rw[beq_iff_eq.2 e,beq_iff_eq.2 this]
 ·have:a'.block≠b'.block:=fun x=>e (hw.inj _ _ _ ha.1 (x▸hb.1));rw[beq_eq_false_iff_ne.2 e,beq_eq_false_iff_ne.2 this]
theorem qh.equalIn(S:Same P' P)(hg:K.ng=P.globals.size):∀(d n:Nat) (t:TypeId) {R:Nat->Nat->Prop} {x x' y y':Value},eqT P n t=true->VR K.C R x x'->VR K.C R y y' ->
 qh K P' P R (Op.equalIn d t x y) (Op.equalIn d t x' y') (fun _ a b=>b=a)
 | 0,_,_,_,_,_,_,_,_,_,_=>by unfold Op.equalIn;exact .unsupported
 | _+1,0,_,_,_,_,_,_,h,_,_=>by simp[eqT]at h
 | d+1,n+1,t,R,x,x',y,y',ht,hx,hy=>by
   have ih:=qh.equalIn S hg d n;unfold Op.equalIn;refine(qh.underlying S t).bind fun R1 de de' h e=>?_;obtain⟨rfl,hde⟩:=e;replace hx:=hx.mono h;replace hy:=hy.mono h;simp only[eqT,hde,Bool.and_eq_true]at ht;obtain⟨hnm,ht⟩:=ht
   cases de' with
   | bool=>cases hx<;>cases hy<;>first|exact .pure rfl|exact .stuck
   | string=>cases hx<;>cases hy<;>first|exact .pure rfl|exact .stuck
   | int k =>
     cases hx with
     | int k1 n1=>cases hy with
       | int k2 n2 =>
         dsimp only;split
         ·exact .pure rfl
         ·exact .stuck
       | ptr hb=>rcases n1 with(_|m)|m<;>first|exact .pure rfl|exact .unsupported
       | pnil=>exact .unsupported
       | _=>exact .stuck
     | pnil=>cases hy<;>exact .unsupported
     | ptr ha=>cases hy with
       | int k2 n2=>rcases n2 with(_|m)|m<;>first|exact .pure rfl|exact .unsupported
       | ptr hb =>
         rename_i a a' b b';dsimp only;refine(qh.behindNumber ha).bind fun R2 u u' h2 e=>?_;refine(qh.behindNumber (hb.mono h2)).bind fun R3 v v' h3 e3=>?_;obtain⟨a,ua⟩:=u;obtain⟨a',ua'⟩:=u';obtain⟨b,ub⟩:=v;obtain⟨b',ub'⟩:=v';dsimp only;have ha3:qW R3 a a':=e.1.mono h3;have hb3:qW R3 b b':=e3.1;refine qh.program ?_;refine qh.at fun w w' hw=>?_;have e1:=hw.beqBlock ha3 hb3
         have e2:decide (a'.block<P.globals.size)=decide (a.block<P.globals.size):=by
          have:=hw.glob _ _ ha3.1;rw[hg]at this;simp only[this]
         rw[e1,S.globals,e2];split
         ·refine(qh.byteOf S ha3).bind fun R4 x y h4 e=>?_;subst e;refine(qh.byteOf S (hb3.mono h4)).bind fun R5 x y h5 e=>?_;subst e;exact .pure rfl
         ·refine(qh.typeInfo S t).bind fun R4 x y h4 e=>?_;obtain⟨rfl,hi⟩:=e;rw[hi]at hnm;simp only at hnm;split
          ·rename_i e3;rw[e3]at hnm;simp at hnm
          ·exact .unsupported
       | _=>exact .unsupported
     | _=>cases hy<;>first|exact .stuck|exact .unsupported
   | struct fields =>
     cases hx<;>cases hy<;>first
      | exact .stuck
      | skip
     rename_i xs xs' sx ex ys ys' sy ey;have ax:AR K.C R1 xs xs':=⟨sx,ex⟩;have ay:AR K.C R1 ys ys':=⟨sy,ey⟩;dsimp only;refine qh.program ?_;rw[S.stoodInHeld];split
     ·exact qh.halted
     ·refine(qh.forArray fields (none,()) fun R2 h2 f hf s=>?_).bind fun R3 u v h3 e=>?_
      ·split
       ·have hft:eqT P n f.type=true:=by
         rw[Array.all_eq_true']at ht;exact ht f hf
        refine(qh.part S f.type f.offset (ax.mono h2)).bind fun R3 u u' h3 hu=>?_;refine(qh.part S f.type f.offset ((ay.mono h2).mono h3)).bind fun R4 v v' h4 hv=>?_;refine(ih f.type hft (hu.mono h4) hv).bind fun R5 r r' h5 e=>?_;subst e;split<;>exact .pure rfl
       ·exact .pure rfl
      ·subst e;split<;>exact .pure rfl
   | array len el =>
     cases hx<;>cases hy<;>first
      | exact .stuck
      | skip
     rename_i xs xs' sx ex ys ys' sy ey;have ax:AR K.C R1 xs xs':=⟨sx,ex⟩;have ay:AR K.C R1 ys ys':=⟨sy,ey⟩;dsimp only;refine(qh.sizeOf S el).bind fun R2 s s' h2 e=>?_;subst e;rw[Std.Legacy.Range.forIn_eq_forIn_range',Std.Legacy.Range.forIn_eq_forIn_range'];refine(qh.forList _ (none,()) fun R3 h3 i _ s=>?_).bind fun R3 u v h3 e=>?_
     ·refine(qh.part S el (i*s') ((ax.mono h2).mono h3)).bind fun R3 u u' h3 hu=>?_;refine(qh.part S el (i*s') (((ay.mono h2).mono ‹_›).mono h3)).bind fun R4 v v' h4 hv=>?_;refine(ih el ht (hu.mono h4) hv).bind fun R5 r r' h5 e=>?_;subst e;split<;>exact .pure rfl
     ·subst e;split<;>exact .pure rfl
   | _=>simp at ht
end
section
variable {K:Cfg} {P' P:Program} {R:Nat->Nat->Prop}
theorem qh.equal(S:Same P' P)(hg:K.ng=P.globals.size){n:Nat}{t:TypeId}{x x' y y':Value}(ht:eqT P n t=true)(hx:VR K.C R x x')(hy:VR K.C R y y') :
 qh K P' P R (Op.equal t x y) (Op.equal t x' y') (fun _ a b=>b=a):=qh.equalIn S hg _ n t ht hx hy
theorem qh.checkKey(S:Same P' P)(empty:Bool):∀(d n:Nat) (t:TypeId) {R:Nat->Nat->Prop} {x x':Value},eqT P n t=true->VR K.C R x x' ->
 qh K P' P R (Instr.checkKey empty d t x) (Instr.checkKey empty d t x') (fun _ _ _=>True)
 | 0,_,_,_,_,_,_,_=>by unfold Instr.checkKey;exact .unsupported
 | _+1,0,_,_,_,_,h,_=>by simp[eqT]at h
 | d+1,n+1,t,R,x,x',ht,hx=>by
   have ih:=qh.checkKey S empty d n;unfold Instr.checkKey;refine(qh.underlying S t).bind fun R1 de de' h e=>?_;obtain⟨rfl,hde⟩:=e;replace hx:=hx.mono h;simp only[eqT,hde,Bool.and_eq_true]at ht;obtain⟨_,ht⟩:=ht
   cases de' with
   | struct fields =>
     cases hx<;>first
      | exact .stuck
      | skip
     rename_i xs xs' sx ex;have ax:AR K.C R1 xs xs':=⟨sx,ex⟩;dsimp only;refine(qh.forArray fields () fun R2 h2 f hf s=>?_).bind fun R3 u v h3 e=>.pure trivial;split
     ·have hft:eqT P n f.type=true:=by
       rw[Array.all_eq_true']at ht;exact ht f hf
      refine(qh.part S f.type f.offset (ax.mono h2)).bind fun R3 u u' h3 hu=>?_;exact(ih f.type hft hu).bind fun R5 r r' h5 e=>.pure rfl
     ·exact .pure rfl
   | array len el =>
     cases hx<;>first
      | exact .stuck
      | skip
     rename_i xs xs' sx ex;have ax:AR K.C R1 xs xs':=⟨sx,ex⟩;dsimp only;rw[Std.Legacy.Range.forIn_eq_forIn_range',Std.Legacy.Range.forIn_eq_forIn_range'];refine(qh.forList _ () fun R3 h3 i _ s=>?_).bind fun R3 u v h3 e=>.pure trivial;refine(qh.sizeOf S el).bind fun R2 s s' h2 e=>?_;subst e;refine(qh.part S el (i*s') ((ax.mono h3).mono h2)).bind fun R3 u u' h3 hu=>?_;exact(ih el ht hu).bind fun R5 r r' h5 e=>.pure rfl
   | bool=>exact .pure trivial
   | int _=>exact .pure trivial
   | string=>exact .pure trivial
   | _=>simp at ht
inductive EntsR (C:FuncId->Prop) (R:Nat->Nat->Prop):List MapEntry->List MapEntry->Prop
 | nil:EntsR C R [] []
 | cons {e e':MapEntry} {l l':List MapEntry}:EntR C R e e'->EntsR C R l l'->EntsR C R (e::l) (e'::l')
theorem EntsR.mono{C:FuncId->Prop}{R R1:Nat->Nat->Prop}(h:∀b c,R b c->R1 b c){l l':List MapEntry}(x:EntsR C R l l'):EntsR C R1 l l':=by
 induction x with
 | nil=>exact .nil
 | cons a _ ih=>exact .cons (a.mono h) ih
theorem EntsR.of{C:FuncId->Prop}{R:Nat->Nat->Prop}:∀{l l':List MapEntry},l.length=l'.length->(∀(i:Nat) (e e':MapEntry),l[i]? = some e->l'[i]? = some e'->EntR C R e e')->EntsR C R l l'
 | [],[],_,_=>.nil
 | [],_::_,h,_=>by simp at h
 | _::_,[],h,_=>by simp at h
 | a::l,b::l',h,he=>.cons (he 0 a b rfl rfl) (EntsR.of (by simpa using h) fun i e e' x y=>he (i+1) e e' (by simpa using x) (by simpa using y))
def qdQ(C:FuncId->Prop)(R:Nat->Nat->Prop)(x y:Option (Nat×Value)):Prop:=(x=none/\y=none)\/∃i v v',x=some (i,v)/\y=some (i,v')/\VR C R v v'
theorem qbD{C:FuncId->Prop}(d:TypeDesc){x x' y y':Value}(hx:VR C R x x')(hy:VR C R y y'):sameNow d x' y'=sameNow d x y:=by
 have hl:∀{a b:Value},xY a=true->sameNow d a b=none:=fun {a b} h=>by
  cases a<;>first|(simp[xY]at h;done)|(cases d<;>rfl)
 have hr:∀{a b:Value},xY b=true->sameNow d a b=none:=fun {a b} h=>by
  cases b<;>first|(simp[xY]at h;done)|(cases d<;>cases a<;>rfl)
 have tl:∀b:Value,sameNow d (.tuple #[]) b=none:=fun b=>by cases d<;>rfl
 have tr:∀b:Value,sameNow d b (.tuple #[])=none:=fun b=>by cases d<;>cases b<;>rfl
 cases hx with
 | junk h=>rw[hl h,tl]
 | _=>cases hy with
   | junk h=>rw[hr h,tr]
   | _=>cases d<;>rfl
theorem qbg{C:FuncId->Prop}(d:TypeDesc){k k':Value}(hk:VR C R k k'){l l':List MapEntry}(h:EntsR C R l l'):∀(i:Nat),(findNow d k l i=none/\findNow d k' l' i=none)\/∃x y,findNow d k l i=some x/\findNow d k' l' i=some y/\qdQ C R x y:=by
 induction h with
 | nil=>intro i;exact .inr ⟨none,none,rfl,rfl,.inl ⟨rfl,rfl⟩⟩
 | cons he _ ih =>
   intro i;unfold findNow;rw[qbD d hk he.key];split
   ·exact .inr ⟨_,_,rfl,rfl,.inr ⟨i,_,_,rfl,rfl,he.val⟩⟩
   ·exact ih (i+1)
   ·exact .inl ⟨rfl,rfl⟩
theorem qh.findAsking(S:Same P' P)(hg:K.ng=P.globals.size){n:Nat}{t:TypeId}(ht:eqT P n t=true){l l':List MapEntry}:∀{R:Nat->Nat->Prop} {k k':Value} (i:Nat),VR K.C R k k'->EntsR K.C R l l' ->
 qh K P' P R (Instr.findAsking t k l i) (Instr.findAsking t k' l' i) (fun R1 x y=>qdQ K.C R1 x y):=by
 induction l generalizing l' with
 | nil=>intro R k k' i hk h;cases h;unfold Instr.findAsking;exact .pure (.inl ⟨rfl,rfl⟩)
 | cons e l ih =>
   intro R k k' i hk h
   cases h with|cons he hl =>
   unfold Instr.findAsking;refine(qh.equal S hg ht hk he.key).bind fun R1 b b' h1 e=>?_;subst e;split
   ·exact .pure (.inr ⟨i,_,_,rfl,rfl,he.val.mono h1⟩)
   ·exact ih (i+1) (hk.mono h1) (hl.mono h1)
theorem qh.findKey(S:Same P' P)(hg:K.ng=P.globals.size){n:Nat}{t:TypeId}(ht:eqT P n t=true){l l':List MapEntry}{k k':Value}(hk:VR K.C R k k')(h:EntsR K.C R l l') :
 qh K P' P R (Instr.findKey t k l) (Instr.findKey t k' l') (fun R1 x y=>qdQ K.C R1 x y):=by
 unfold Instr.findKey;refine(qh.underlying S t).bind fun R1 d d' h1 e=>?_;obtain⟨rfl,_⟩:=e;rcases qbg d' (hk.mono h1) (h.mono h1) 0 with⟨e1,e2⟩|⟨x,y,e1,e2,hxy⟩
 ·rw[e1,e2];exact qh.findAsking S hg ht 0 (hk.mono h1) (h.mono h1)
 ·rw[e1,e2];exact .pure hxy
theorem qh.lookup(S:Same P' P)(hg:K.ng=P.globals.size){n:Nat}{t kt:TypeId}(ht:∀k e,P.underlying t=some (.map k e)->k=kt)(hk:eqT P n kt=true){x x' i i':Value}(hx:VR K.C R x x')(hi:VR K.C R i i')(ok:Bool) :
 qh K P' P R (Instr.lookup t x i ok) (Instr.lookup t x' i' ok) (fun R1 x y=>VR K.C R1 x y):=by
 unfold Instr.lookup;refine(qh.underlying S t).bind fun R1 d d' h1 e=>?_;obtain⟨rfl,hd⟩:=e
 cases d' with
 | map key elem =>
   obtain rfl:=ht _ _ hd;dsimp only;replace hx:=hx.mono h1;replace hi:=hi.mono h1
   have tail:∀(R2:Nat->Nat->Prop) (es es':Array MapEntry),(∀b c,R1 b c->R2 b c)->es.size=es'.size->EntsR K.C R2 es.toList es'.toList->qh K P' P R2
    (do
      Instr.checkKey es.isEmpty 10000 key i
      let (v,ok1) <-match <-Instr.findKey key i es.toList with
       | some (_,v)=>Pure.pure (v,true)
       | none=>Pure.pure (<-Go.zeroValue elem,false)
      Pure.pure (if ok then Value.tuple #[v,.bool ok1]else v))
    (do
      Instr.checkKey es'.isEmpty 10000 key i'
      let (v,ok1) <-match <-Instr.findKey key i' es'.toList with
       | some (_,v)=>Pure.pure (v,true)
       | none=>Pure.pure (<-Go.zeroValue elem,false)
      Pure.pure (if ok then Value.tuple #[v,.bool ok1]else v)) (fun R1 x y=>VR K.C R1 x y):=by
    intro R2 es es' h2 hs he;have e:es'.isEmpty=es.isEmpty:=(by simp[Array.isEmpty,hs]);rw[e]
    have fin:∀{R:Nat->Nat->Prop} {v v':Value} (b:Bool),VR K.C R v v'->VR K.C R (if ok then Value.tuple #[v,.bool b]else v) (if ok then Value.tuple #[v',.bool b]else v'):=fun b hv=>by
     split
     ·exact((AR.one hv).push (.bool b)).tuple
     ·exact hv
    refine(qh.checkKey S es.isEmpty 10000 n key hk (hi.mono h2)).bind fun R3 _ _ h3 _=>?_;refine(qh.findKey S hg hk ((hi.mono h2).mono h3) (he.mono h3)).bind fun R4 u v h4 hf=>?_;rcases hf with⟨rfl,rfl⟩|⟨j,v,v',rfl,rfl,hv⟩
    ·dsimp only;exact(qh.zeroValue S elem).bind fun R5 z z' _ e=>.pure (fin false e.2)
    ·exact .pure (fin true hv)
   cases hx with
   | mnil=>exact tail R1 #[] #[] (fun _ _ h=>h) rfl .nil
   | map hr =>
     dsimp only;refine(qh.getObj hr).bind fun R2 o o' h2 ho=>?_;obtain⟨ho,_⟩:=ho
     cases ho with
     | map k s e=>exact tail R2 _ _ h2 s (EntsR.of (by simpa using s) fun i a b x y=>e i a b (by simpa using x) (by simpa using y))
     | _=>exact qh.halted
   | _=>exact qh.halted
 | _=>exact .stuck
theorem JD{C:FuncId->Prop}(fn:∀x y z,R x y->R x z->y=z)(inj:∀x y z,R x z->R y z->x=y):∀(n:Nat) {x x' y y':Value},VR C R x x'->VR C R y y'->sameBits n x y=true->sameBits n x' y'=true:=by
 intro n
 induction n with
 | zero =>
   intro x x' y y' hx hy h
   cases hx with
   | junk _=>simp[sameBits]at h
   | ptr h1=>cases hy with
     | ptr h2=>simp only[sameBits]at h⊢;simpa[qW.beq fn inj h1 h2]using h
     | pnil=>simp[sameBits]at h
     | _=>simp[sameBits]at h
   | pnil=>cases hy with
     | pnil=>exact h
     | _=>simp[sameBits]at h
   | _=>cases hy<;>first|exact h|(simp[sameBits]at h;done)
 | succ n ih =>
   intro x x' y y' hx hy h
   cases hx with
   | junk _=>simp[sameBits]at h
   | ptr h1=>cases hy with
     | ptr h2=>simp only[sameBits]at h⊢;simpa[qW.beq fn inj h1 h2]using h
     | pnil=>simp[sameBits]at h
     | _=>simp[sameBits]at h
   | pnil=>cases hy with
     | pnil=>exact h
     | _=>simp[sameBits]at h
   | iface t1 h1=>cases hy with
     | iface t2 h2 =>
       simp only[sameBits,Bool.and_eq_true]at h⊢;exact⟨h.1,ih h1 h2 h.2⟩
     | _=>simp[sameBits]at h
   | @agg xs xs' s1 e1=>cases hy with
     | @agg ys ys' s2 e2 =>
       simp only[sameBits,Bool.and_eq_true]at h⊢;rw[<-s1,<-s2];refine⟨h.1,?_⟩;have hsz:xs.size=ys.size:=(by simpa using h.1);have hall:=h.2;rw[List.all_eq_true]at hall⊢;intro p hp;obtain⟨k,hk,rfl⟩:=List.mem_iff_getElem.1 hp;simp only[List.length_zip,Array.length_toList]at hk;have:=hall ((xs.toList.zip ys.toList)[k]'(by simp;omega)) (List.getElem_mem _);simp only[List.getElem_zip,Array.getElem_toList]at this⊢;exact ih (e1 k _ _ (Array.getElem?_eq_getElem (by omega)) (Array.getElem?_eq_getElem (by omega))) (e2 k _ _ (Array.getElem?_eq_getElem (by omega)) (Array.getElem?_eq_getElem (by omega))) this
     | _=>simp[sameBits]at h
   | _=>cases hy<;>first|exact h|(simp[sameBits]at h;done)
theorem qbX{a b:ByteArray}(h:(a==b)=true):a=b:=by
 cases a;cases b;have:(_==_)=true:=h;simp only[BEq.beq,ByteArray.mk.injEq]at this⊢;exact eq_of_beq this
theorem qbC:∀(n:Nat) {x y:Value},sameBits n x y=true->x=y:=by
 intro n
 induction n with
 | zero =>
   intro x y h
   cases x<;>cases y<;>first
    | (simp_all[sameBits];done)
    | (simp only[sameBits]at h;rw[qbX h])
 | succ n ih =>
   intro x y h
   cases x<;>cases y<;>first
    | (simp_all[sameBits];done)
    | (simp only[sameBits]at h;rw[qbX h];done)
    | (simp only[sameBits,Bool.and_eq_true,beq_iff_eq]at h;rw[h.1,ih h.2];done)
    | skip
   rename_i a b;simp only[sameBits,Bool.and_eq_true,beq_iff_eq]at h;refine congrArg Value.agg (Array.ext h.1 fun i h1 h2=>?_);have hall:=h.2;rw[List.all_eq_true]at hall;have:=hall ((a.toList.zip b.toList)[i]'(by simp;omega)) (List.getElem_mem _);simp only[List.getElem_zip,Array.getElem_toList]at this;exact ih this
theorem jI.keySet{r r':Nat}{o o':Value->Obj}{x x' y y':Value}(hr:R r r')(hx:VR K.C R x x')(hy:VR K.C R y y')(ho:∀R1 k k',(∀b c,R b c->R1 b c)->VR K.C R1 k k'->OR K.C K.D R1 (o k) (o' k'))(hn:∀k a e f,o k≠.cells a e f) :
 jI K P' P R (Instr.keyThatStays x y >>= fun k=>Go.setObj r (o k)) (Instr.keyThatStays x' y' >>= fun k=>Go.setObj r' (o' k)) (fun _ _ _=>True):=by
 intro w w' hw;by_cases hs:sameBits 10000 x y=sameBits 10000 x' y'
 ·refine qh.l ?_ w w' hw;unfold Instr.keyThatStays;rw[hs];split
  ·refine qh.bind (Q:=fun R1 a b=>VR K.C R1 a b) (.pure hy) fun R1 a b h1 hab=>?_;exact qh.setObj (h1 _ _ hr) (ho R1 a b h1 hab) (hn _)
  ·refine qh.bind (Q:=fun R1 a b=>VR K.C R1 a b) ?_ fun R1 a b h1 hab=>qh.setObj (h1 _ _ hr) (ho R1 a b h1 hab) (hn _);refine(qh.choose _).bind fun R1 a b h e=>?_;subst e;refine .pure ?_;split
   ·exact hy.mono h
   ·exact hx.mono h
 ·have hf:sameBits 10000 x y=false:=by
   cases e:sameBits 10000 x y with
   | false=>rfl
   | true=>exact absurd (e.trans (JD hw.fn hw.inj 10000 hx hy e).symm) hs
  have ht:sameBits 10000 x' y'=true:=by
   cases e:sameBits 10000 x' y' with
   | true=>rfl
   | false=>exact absurd (hf.trans e.symm) hs
  have exy:=qbC _ ht
  have run1:∃k w2,(Instr.keyThatStays x y).run P' w=.ok k w2/\VR K.C R k y'/\(w2=w\/w2={ w with drawn:=w.drawn+1 }):=by
   unfold Instr.keyThatStays;rw[hf];simp only[Bool.false_eq_true,if_false,Sem.run_bind,run_choose];split
   ·simp only[Result.andThen_ok,Sem.run_pure];refine⟨_,_,rfl,?_,.inl rfl⟩;split
    ·exact hy
    ·exact exy▸hx
   ·simp only[Result.andThen_ok,Sem.run_pure];refine⟨_,_,rfl,?_,.inr rfl⟩;split
    ·exact hy
    ·exact exy▸hx
  have run2:(Instr.keyThatStays x' y').run P w'=.ok y' w':=by
   unfold Instr.keyThatStays;rw[ht];rfl
  have ev2:(Instr.keyThatStays x' y').events P w' #[]=#[]:=by
   unfold Instr.keyThatStays;rw[ht];rfl
  obtain⟨k,w2,e1,hk,hw2⟩:=run1;have hrun:(Instr.keyThatStays x y >>= fun k=>Go.setObj r (o k)).run P' w=(Go.setObj r (o k)).run P' w2:=by rw[Sem.run_bind,e1];rfl
  have hl:∀n,w2.drawn=n->WR (K.at' n) R w2 w':=fun n hn=>by
   have:∀i q,w2.drawn+i<n->w'.tape (w'.drawn+i) q=w2.tape (w2.drawn+i) q:=fun i q h=>(by omega);rcases hw2 with rfl|rfl<;>exact⟨hw.fn,hw.inj,hw.obj,hw.fz,this,hw.glob,hw.big,hw.big'⟩
  have dr:∀{a:Unit} {w3:World},(Go.setObj r (o k)).run P' w2=.ok a w3->w3.drawn=w2.drawn:=fun {a w3} h=>by
   unfold Go.setObj at h;simp only[Sem.run]at h;split at h<;>(cases h;first|rfl|skip)
  have kd:QC w w2:=by rcases hw2 with rfl|rfl<;>exact fun h=>h
  refine⟨fun a w3 h hd=>?_,fun z w3 h hd=>?_,fun hd=>Tp.of ?_ w⟩
  ·rw[hrun]at h
   have hlim:K.at' w2.drawn=K:=by
    have:=(dr h).symm.trans hd;rw[this];rfl
   have hw3:=hl w2.drawn rfl;rw[hlim]at hw3;obtain⟨R1,b,w3',a1,a2,a3,a4,a5,a6⟩:=(qh.setObj (K:=K) (P':=P') (P:=P) hr (ho R k y' (fun _ _ h=>h) hk) (hn k) w2 w' hw3).1 a w3 h (Nat.le_of_eq hd);refine⟨R1,b,w3',?_,a2,?_,?_,trivial,kd.trans a6⟩
   ·rw[Sem.run_bind,run2];exact a1
   ·refine Ext.trans ?_ a3;rcases hw2 with rfl|rfl
    ·exact .refl _ _
    ·exact⟨fun _ _ h=>h,fun _ _ h=>.inl h,ql,ql,fun _ _ _=>rfl,rfl,rfl,rfl,rfl,fun _ _ _=>rfl⟩
   ·rw[Sem.events_bind,run2,ev2];exact a4
  ·rw[hrun]at h
   refine⟨kd.trans fun hn=>?_,?_⟩ <;>
    (unfold Go.setObj at h
     simp only[Sem.run]at h
     split at h<;>first
      | (cases h;done)
      | (cases h;first|exact hn|rfl))
  ·refine zD.bind ?_ fun k=>(by exact trivial);unfold Instr.keyThatStays;split
   ·exact trivial
   ·exact zD.bind (fun _=>trivial) fun _=>trivial
theorem qh.mapUpdate(S:Same P' P)(hg:K.ng=P.globals.size){n:Nat}{t kt:TypeId}(ht:∀k e,P.underlying t=some (.map k e)->k=kt)(hk:eqT P n kt=true){x x' i i' v v':Value}(hx:VR K.C R x x')(hi:VR K.C R i i')(hv:VR K.C R v v') :
 jI K P' P R (Instr.mapUpdate t x i v) (Instr.mapUpdate t x' i' v') (fun _ _ _=>True):=by
 unfold Instr.mapUpdate;refine(qh.underlying S t).bindL fun R1 d d' h1 e=>?_;obtain⟨rfl,hd⟩:=e
 cases d' with
 | map key elem =>
   obtain rfl:=ht _ _ hd;dsimp only;replace hx:=hx.mono h1;replace hi:=hi.mono h1;replace hv:=hv.mono h1
   cases hx with
   | mnil=>exact qh.runtimePanic.l
   | map hr =>
     dsimp only;refine(qh.getObj hr).bindL fun R2 o o' h2 ho=>?_;obtain⟨ho,_⟩:=ho
     cases ho with
     | @map es es' k s e =>
       dsimp only;refine(qh.checkKey S false 10000 n key hk (hi.mono h2)).bindL fun R3 _ _ h3 _=>?_;have he:∀(i:Nat) (a b:MapEntry),es[i]? = some a->es'[i]? = some b->EntR K.C R3 a b:=fun i a b x y=>(e i a b x y).mono h3;refine(qh.findKey S hg hk ((hi.mono h2).mono h3) (EntsR.of (by simpa using s) fun i a b x y=>he i a b (by simpa using x) (by simpa using y))).bindL fun R4 u u' h4 hf=>?_;have hr4:=h4 _ _ (h3 _ _ (h2 _ _ hr));have hi4:=((hi.mono h2).mono h3).mono h4;have hv4:=((hv.mono h2).mono h3).mono h4;rcases hf with⟨rfl,rfl⟩|⟨j,y,y',rfl,rfl,hy⟩
       ·dsimp only;refine(qh.setObj hr4 (.map (k+1) (by simp[s]) fun i a b x y=>?_) (by simp)).l;rw[Array.getElem?_push]at x y;rw[s]at x;split at x
        ·rw[if_pos ‹_›]at y;cases x;cases y;exact⟨hi4,hv4,rfl⟩
        ·rw[if_neg ‹_›]at y;exact(he i a b x y).mono h4
       ·dsimp only;refine jI.keySet (o:=fun key=>.map (es.modify j fun e=>{ e with key,val:=v }) k) (o':=fun key=>.map (es'.modify j fun e=>{ e with key,val:=v' }) k) hr4 ?_ hi4 (fun R5 a b h5 hab=>?_) (by simp)
        ·skip
         cases e1:es[j]? with
         | none =>
           have:es'[j]? = none:=by
            rw[Array.getElem?_eq_none_iff]at *
            omega
           simp only[this,Option.map_none,Option.getD_none];exact hi4
         | some a =>
           have hj:j<es'.size:=(by have:=(qy e1).1;omega);have e2:es'[j]? = some es'[j]:=(by simp[hj]);simp only[e2,Option.map_some,Option.getD_some];exact(he j a _ e1 e2).key.mono h4
        ·refine .map k (by simp[s]) fun i a1 b1 x y=>?_;rw[Array.getElem?_modify]at x y;split at x
         ·rw[if_pos ‹_›]at y
          cases e1:es[i]? with
          | none=>rw[e1]at x;cases x
          | some a2 =>
            cases e2:es'[i]? with
            | none=>rw[e2]at y;cases y
            | some b2 =>
              rw[e1]at x;rw[e2]at y;cases x;cases y;have:=((he i a2 b2 e1 e2).mono h4).mono h5;exact⟨hab,hv4.mono h5,this.born⟩
         ·rw[if_neg ‹_›]at y;exact((he i a1 b1 x y).mono h4).mono h5
     | _=>exact qh.stuck.l
   | _=>exact qh.stuck.l
 | _=>exact qh.stuck.l
end
end Go.Sim
