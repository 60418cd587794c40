/-
  Lemmas about the program and the machine (SimVal to SimTree), upon which the last text of this claim rests; no condition.
-/
import Derived.Calls
import Derived.Laws.Sem
import Derived.Conc.Events
import Derived.Conc.Own
import Derived.Conc.Listed
set_option linter.unusedSimpArgs false
set_option linter.unusedVariables false
namespace Go.Sim
open Go
def qF (R:Nat→Nat→Prop) (a a':Addr):Prop:=R a.block a'.block∧a'.off=a.off∧a'.spot=a.spot
def xy:Value→Bool
 | .bool _ | .int _ _ | .string _ | .nilFunc | .nilIface | .agg _ | .tuple _ | .pointer none | .func (.method _) _ _=>false
 | _=>true
inductive VR (C:FuncId→Prop) (R:Nat→Nat→Prop):Value→Value→Prop
 | bool (b:Bool):VR C R (.bool b) (.bool b)
 | int (k:IntKind) (n:Int):VR C R (.int k n) (.int k n)
 | string (s:ByteArray):VR C R (.string s) (.string s)
 | pnil:VR C R (.pointer none) (.pointer none)
 | ptr {a a':Addr}:qF R a a'→VR C R (.pointer (some a)) (.pointer (some a'))
 | snil (l c:Nat):VR C R (.slice none l c) (.slice none l c)
 | slice {a a':Addr} (l c:Nat):qF R a a'→VR C R (.slice (some a) l c) (.slice (some a') l c)
 | mnil:VR C R (.map none) (.map none)
 | map {r r':Nat}:R r r'→VR C R (.map (some r)) (.map (some r'))
 | func (f:FuncId) {xs xs' ys ys':Array Value}:C f→xs.size=xs'.size→(∀(i:Nat) (x x':Value),xs[i]? = some x→xs'[i]? = some x'→VR C R x x') →
    ys.size=ys'.size→(∀(i:Nat) (x x':Value),ys[i]? = some x→ys'[i]? = some x'→VR C R x x')→VR C R (.func (.func f) xs ys) (.func (.func f) xs' ys')
 | yld {l l':Nat}:R l l'→VR C R (.func (.yield l) #[] #[]) (.func (.yield l') #[] #[])
 | nilFunc:VR C R .nilFunc .nilFunc
 | iface (t:TypeId) {v v':Value}:VR C R v v'→VR C R (.iface t v) (.iface t v')
 | nilIface:VR C R .nilIface .nilIface
 | agg {xs xs':Array Value}:xs.size=xs'.size→(∀(i:Nat) (x x':Value),xs[i]? = some x→xs'[i]? = some x'→VR C R x x')→VR C R (.agg xs) (.agg xs')
 | tuple {xs xs':Array Value}:xs.size=xs'.size→(∀(i:Nat) (x x':Value),xs[i]? = some x→xs'[i]? = some x'→VR C R x x')→VR C R (.tuple xs) (.tuple xs')
 | junk {v':Value}:xy v'=true→VR C R (.tuple #[]) v'
 | cnil:VR C R (.chan none) (.chan none)
 | meth (n:String) (xs ys:Array Value):VR C R (.func (.method "") #[.nilIface] #[]) (.func (.method n) xs ys)
 | zcap (a:Addr):VR C R (.slice (some a) 0 0) (.slice (some a) 0 0)
structure AR (C:FuncId→Prop) (R:Nat→Nat→Prop) (xs xs':Array Value):Prop where
 size:xs.size=xs'.size
 el:∀(i:Nat) (x x':Value),xs[i]? = some x→xs'[i]? = some x'→VR C R x x'
section
variable {C:FuncId→Prop} {R R1:Nat→Nat→Prop}
theorem qF.mono (h:∀b c,R b c→R1 b c) {a a':Addr} (x:qF R a a'):qF R1 a a':=⟨h _ _ x.1,x.2⟩
theorem qF.add {a a':Addr} (x:qF R a a') (n:Nat):qF R (a.add n) (a'.add n):=by
 obtain ⟨h1,h2,h3⟩:=x
 unfold Addr.add
 split
 ·exact ⟨h1,h2,h3⟩
 ·exact ⟨h1,by simp [h2],rfl⟩
theorem qF.none {b b' o:Nat} (h:R b b'):qF R ⟨b,o,.none⟩ ⟨b',o,.none⟩:=⟨h,rfl,rfl⟩
theorem VR.mono (h:∀b c,R b c→R1 b c) {v v':Value} (x:VR C R v v'):VR C R1 v v':=by
 induction x with
 | bool b=>exact .bool b
 | int k n=>exact .int k n
 | string s=>exact .string s
 | pnil=>exact .pnil
 | ptr a=>exact .ptr (a.mono h)
 | snil l c=>exact .snil l c
 | slice l c a=>exact .slice l c (a.mono h)
 | mnil=>exact .mnil
 | map r=>exact .map (h _ _ r)
 | func f hc s1 _ s2 _ i1 i2=>exact .func f hc s1 i1 s2 i2
 | yld r=>exact .yld (h _ _ r)
 | nilFunc=>exact .nilFunc
 | iface t _ i=>exact .iface t i
 | nilIface=>exact .nilIface
 | agg s _ i=>exact .agg s i
 | tuple s _ i=>exact .tuple s i
 | junk h=>exact .junk h
 | cnil=>exact .cnil
 | zcap a=>exact .zcap a
 | meth n a b=>exact .meth n a b
theorem AR.mono (h:∀b c,R b c→R1 b c) {xs xs':Array Value} (x:AR C R xs xs'):AR C R1 xs xs' :=
 ⟨x.size,fun i y y' a b=>(x.el i y y' a b).mono h⟩
theorem AR.agg {xs xs':Array Value} (h:AR C R xs xs'):VR C R (.agg xs) (.agg xs'):=.agg h.size h.el
theorem AR.tuple {xs xs':Array Value} (h:AR C R xs xs'):VR C R (.tuple xs) (.tuple xs'):=.tuple h.size h.el
theorem AR.func {xs xs' ys ys':Array Value} {f:FuncId} (hf:C f) (h:AR C R xs xs') (k:AR C R ys ys'):VR C R (.func (.func f) xs ys) (.func (.func f) xs' ys'):=.func f hf h.size h.el k.size k.el
theorem AR.nil:AR C R #[] #[]:=⟨rfl,fun i x x' a=>by simp at a⟩
theorem VR.undef:VR C R undef undef:=AR.tuple AR.nil
theorem AR.get {xs xs':Array Value} (h:AR C R xs xs') {i:Nat} {x:Value} (e:xs[i]? = some x):∃x',xs'[i]? = some x'∧VR C R x x':=by
 have hi:i < xs.size:=(Array.getElem?_eq_some_iff.1 e).1
 have hi':i < xs'.size:=h.size▸hi
 exact ⟨xs'[i],by simp [hi'],h.el i x _ e (by simp [hi'])⟩
theorem AR.get_none {xs xs':Array Value} (h:AR C R xs xs') {i:Nat} (e:xs[i]? = none):xs'[i]? = none:=by
 rw [Array.getElem?_eq_none_iff] at *
 have:=h.size
 omega
theorem AR.getD {xs xs':Array Value} (h:AR C R xs xs') (i:Nat) {d d':Value} (hd:VR C R d d'):VR C R (xs.getD i d) (xs'.getD i d'):=by
 rw [Array.getD_eq_getD_getElem?,Array.getD_eq_getD_getElem?]
 cases e:xs[i]? with
 | none=>rw [h.get_none e];exact hd
 | some x=>obtain ⟨x',e',hx⟩:=h.get e;rw [e'];exact hx
theorem AR.push {xs xs':Array Value} (h:AR C R xs xs') {x x':Value} (hx:VR C R x x'):AR C R (xs.push x) (xs'.push x'):=by
 refine ⟨by simp [h.size],fun i y y' a b=>?_⟩
 rw [Array.getElem?_push] at a b
 rw [h.size] at a
 split at a
 ·cases a
  rw [if_pos ‹_›] at b;cases b;exact hx
 ·rw [if_neg ‹_›] at b;exact h.el i y y' a b
theorem AR.set {xs xs':Array Value} (h:AR C R xs xs') (k:Nat) {x x':Value} (hx:VR C R x x'):AR C R (xs.setIfInBounds k x) (xs'.setIfInBounds k x'):=by
 refine ⟨by simp [h.size],fun i y y' a b=>?_⟩
 rw [Array.getElem?_setIfInBounds] at a b
 rw [h.size] at a
 split at a
 ·rw [if_pos ‹_›] at b
  split at a
  ·rw [if_pos ‹_›] at b;cases a;cases b;exact hx
  ·cases a
 ·rw [if_neg ‹_›] at b;exact h.el i y y' a b
theorem AR.append {xs xs' ys ys':Array Value} (h:AR C R xs xs') (k:AR C R ys ys'):AR C R (xs ++ ys) (xs' ++ ys'):=by
 refine ⟨by simp [h.size,k.size],fun i y y' a b=>?_⟩
 rw [Array.getElem?_append] at a b
 rw [h.size] at a
 split at a
 ·rw [if_pos ‹_›] at b;exact h.el i y y' a b
 ·rw [if_neg ‹_›] at b;exact k.el _ y y' a b
theorem AR.extract {xs xs':Array Value} (h:AR C R xs xs') (i j:Nat):AR C R (xs.extract i j) (xs'.extract i j):=by
 refine ⟨by simp [h.size],fun n y y' a b=>?_⟩
 rw [Array.getElem?_extract] at a b
 rw [h.size] at a
 split at a
 ·rw [if_pos ‹_›] at b;exact h.el _ y y' a b
 ·cases a
theorem AR.replicate (n:Nat) {v v':Value} (h:VR C R v v'):AR C R (Array.replicate n v) (Array.replicate n v'):=by
 refine ⟨by simp,fun i y y' a b=>?_⟩
 rw [Array.getElem?_replicate] at a b
 split at a
 ·rw [if_pos ‹_›] at b;cases a;cases b;exact h
 ·cases a
theorem AR.one {v v':Value} (h:VR C R v v'):AR C R #[v] #[v']:=AR.nil.push h
theorem AR.map {α:Type} (xs:Array α) {f g:α→Value} (h:∀x∈xs,VR C R (f x) (g x)):AR C R (xs.map f) (xs.map g):=by
 refine ⟨by simp,fun i y y' a b=>?_⟩
 rw [Array.getElem?_map] at a b
 cases e:xs[i]? with
 | none=>rw [e] at a;cases a
 | some x =>
   rw [e] at a b
   cases a;cases b
   exact h x (Array.mem_of_getElem? e)
theorem qbQ {v:Value} (h:xy v=true):v.cells=#[v]:=by
 cases v <;> first | rfl | (simp [xy] at h;done)
theorem VR.cells {v v':Value} (h:VR C R v v'):AR C R v.cells v'.cells:=by
 cases h with
 | junk h=>rw [qbQ h];exact AR.one (.junk h)
 | zcap a=>exact AR.one (.zcap a)
 | meth n a b=>exact AR.one (.meth n a b)
 | _ =>
   simp only [Value.cells]
   first
   | exact ⟨by assumption,by assumption⟩
   | (refine AR.one ?_;first | (constructor <;> assumption) | constructor)
theorem VR.agg_inv {xs:Array Value} {v':Value} (h:VR C R (.agg xs) v'):∃xs',v'=.agg xs'∧AR C R xs xs':=by cases h with | agg s e=>exact ⟨_,rfl,s,e⟩
end
def zw:Nat→Value→Bool
 | 0,_=>false
 | _+1,.bool _ | _+1,.int _ _ | _+1,.string _ | _+1,.pointer none | _+1,.slice none _ _ | _+1,.map none | _+1,.chan none | _+1,.nilFunc | _+1,.nilIface=>true
 | n+1,.iface _ v=>zw n v
 | n+1,.agg xs=>xs.all (zw n)
 | n+1,.tuple xs=>xs.size != 0 && xs.all (zw n)
 | _+1,_=>false
theorem VR.plain {C:FuncId→Prop} {R:Nat→Nat→Prop}:∀(n:Nat) (v:Value),zw n v=true→VR C R v v
 | 0,v,h=>by simp [zw] at h
 | n+1,v,h=>by
   have key:∀xs:Array Value,xs.all (zw n)=true→AR C R xs xs:=fun xs hx=>by
    refine ⟨rfl,fun i x x' a b=>?_⟩
    rw [a] at b;cases b
    rw [Array.all_eq_true'] at hx
    exact VR.plain n x (hx x (Array.mem_of_getElem? a))
   match v,h with
   | .bool _,_=>exact .bool _
   | .int _ _,_=>exact .int _ _
   | .string _,_=>exact .string _
   | .pointer none,_=>exact .pnil
   | .slice none _ _,_=>exact .snil _ _
   | .map none,_=>exact .mnil
   | .chan none,_=>exact .cnil
   | .nilFunc,_=>exact .nilFunc
   | .nilIface,_=>exact .nilIface
   | .iface _ v,h=>exact .iface _ (VR.plain n v h)
   | .agg xs,h=>exact (key xs h).agg
   | .tuple xs,h=>exact (key xs (by simp only [zw,Bool.and_eq_true] at h;exact h.2)).tuple
   | .pointer (some _),h=>simp [zw] at h
   | .slice (some _) _ _,h=>simp [zw] at h
   | .map (some _),h=>simp [zw] at h
   | .chan (some _),h=>simp [zw] at h
   | .complex _ _ _,h=>simp [zw] at h
   | .float _ _,h=>simp [zw] at h
   | .func _ _ _,h=>simp [zw] at h
end Go.Sim
namespace Go.Sim
open Go Go.Instr
def _root_.Go.World.tp (w:World) (t:Nat→Question→Nat):World:={ w with tape:=t }
def _root_.Go.Result.tp {α:Type} (t:Nat→Question→Nat):Result α→Result α
 | .ok a w=>.ok a (w.tp t)
 | .halt h w=>.halt h (w.tp t)
def _root_.Go.Result.w {α:Type}:Result α→World
 | .ok _ w=>w
 | .halt _ w=>w
theorem qcF {α:Type} (x:Ask α):∀w:World,w.drawn≤(w.ask x).2.drawn:=by
 induction x with
 | done a=>intro w;exact Nat.le_refl _
 | ask what range k ih =>
   intro w
   simp only [World.ask]
   split
   ·exact ih 0 w
   ·exact Nat.le_trans (by simp) (ih _ { w with drawn:=w.drawn+1 })
theorem Ju (w:World) (c:Sys):w.drawn≤(w.sys c).2.drawn:=by
 have h:=qcF (Kernel.perform c w.os) w
 unfold World.sys
 split
 ·exact Nat.le_refl _
 ·rename_i r os w1 _ e
  rw [e] at h
  exact h
theorem yI (w:World) (a:Addr) (n:Nat):(w.freeze a n).drawn=w.drawn:=by
 unfold World.freeze;split <;> rfl
theorem xq {p:Program} {w w1:World} {a:Addr} {v:Value} {m:Bool} {l:List Addr} (h:w.farStore p a v m=.ok (w1,l)):w1.drawn=w.drawn∧w1.tape=w.tape:=by
 unfold World.farStore at h
 split at h
 ·rename_i at_ u _
  cases e:w.viewStore p at_ u a v m with
  | error x=>rw [e] at h;cases h
  | ok r =>
    rw [e] at h
    simp only [Except.ok.injEq] at h
    subst h
    unfold World.viewStore at e
    repeat' (first | (split at e) | (simp only [bind,Except.bind,pure,Except.pure] at e))
    all_goals first | (cases e;done) | skip
    all_goals (cases e;exact ⟨rfl,rfl⟩)
 ·cases h
theorem zb {α:Type} (P:Program) (s:Sem α):∀{w w1:World} {a:α},s.run P w=.ok a w1→w.drawn≤w1.drawn:=by
 induction s with
 | pure a=>intro w w1 a h;cases h;exact Nat.le_refl _
 | load m ad k ih =>
   intro w w1 a h
   simp only [Sem.run] at h
   split at h
   ·exact ih _ h
   ·split at h
    ·exact ih _ h
    ·cases h
 | store m ad v k ih =>
   intro w w1 a h
   have key:∀{w2:World},w2.drawn=w.drawn→k.run P w2=.ok a w1→w.drawn≤w1.drawn:=fun e h=>e▸ih h
   cases v <;> simp only [Sem.run] at h <;> first
    | (cases h;done)
    | (split at h
       ·split at h
        ·cases h
        ·exact key (by simp [World.setCell]) h
       ·split at h
        ·rename_i e;exact key (xq e).1 h
        ·cases h)
 | new o k ih=>intro w w1 a h;exact ih _ (w:={ w with heap:=w.heap.push o }) h
 | shape r k ih=>intro w w1 a h;exact ih _ h
 | freeze ad n k ih=>intro w w1 a h;rw [← yI w ad n];exact ih h
 | frozen ad k ih=>intro w w1 a h;exact ih _ h
 | getObj r k ih =>
   intro w w1 a h
   simp only [Sem.run] at h
   split at h
   ·cases h
   ·exact ih _ h
   ·cases h
 | setObj r o k ih =>
   intro w w1 a h
   simp only [Sem.run] at h
   split at h
   ·cases h
   ·exact ih (w:={ w with heap:=w.heap.setIfInBounds r o }) h
   ·cases h
 | choose q k ih =>
   intro w w1 a h
   simp only [Sem.run] at h
   split at h
   ·exact ih _ h
   ·have:=ih _ (w:={ w with drawn:=w.drawn+1 }) h
    simp at this
    omega
 | sys c k ih=>intro w w1 a h;exact Nat.le_trans (Ju w c) (ih _ h)
 | program k ih=>intro w w1 a h;exact ih _ h
 | mark m k ih=>intro w w1 a h;exact ih h
 | halt x=>intro w w1 a h;cases h
theorem jq {α:Type} (P:Program) (s:Sem α):∀{w w1:World} {a:Halt},s.run P w=.halt a w1→w.drawn≤w1.drawn:=by
 induction s with
 | pure a=>intro w w1 a h;cases h
 | load m ad k ih =>
   intro w w1 a h
   simp only [Sem.run] at h
   split at h
   ·exact ih _ h
   ·split at h
    ·exact ih _ h
    ·cases h;exact Nat.le_refl _
 | store m ad v k ih =>
   intro w w1 a h
   have key:∀{w2:World},w2.drawn=w.drawn→k.run P w2=.halt a w1→w.drawn≤w1.drawn:=fun e h=>e▸ih h
   cases v <;> simp only [Sem.run] at h <;> first
    | (cases h;exact Nat.le_refl _)
    | (split at h
       ·split at h
        ·cases h;exact Nat.le_refl _
        ·exact key (by simp [World.setCell]) h
       ·split at h
        ·rename_i e;exact key (xq e).1 h
        ·cases h;exact Nat.le_refl _)
 | new o k ih=>intro w w1 a h;exact ih _ (w:={ w with heap:=w.heap.push o }) h
 | shape r k ih=>intro w w1 a h;exact ih _ h
 | freeze ad n k ih=>intro w w1 a h;rw [← yI w ad n];exact ih h
 | frozen ad k ih=>intro w w1 a h;exact ih _ h
 | getObj r k ih =>
   intro w w1 a h
   simp only [Sem.run] at h
   split at h
   ·cases h;exact Nat.le_refl _
   ·exact ih _ h
   ·cases h;exact Nat.le_refl _
 | setObj r o k ih =>
   intro w w1 a h
   simp only [Sem.run] at h
   split at h
   ·cases h;exact Nat.le_refl _
   ·exact ih (w:={ w with heap:=w.heap.setIfInBounds r o }) h
   ·cases h;exact Nat.le_refl _
 | choose q k ih =>
   intro w w1 a h
   simp only [Sem.run] at h
   split at h
   ·exact ih _ h
   ·have:=ih _ (w:={ w with drawn:=w.drawn+1 }) h
    simp at this
    omega
 | sys c k ih=>intro w w1 a h;exact Nat.le_trans (Ju w c) (ih _ h)
 | program k ih=>intro w w1 a h;exact ih _ h
 | mark m k ih=>intro w w1 a h;exact ih h
 | halt x=>intro w w1 a h;cases h;exact Nat.le_refl _
def Agree (t u:Nat→Question→Nat) (m n:Nat):Prop:=∀i q,m≤i→i < n→u i q=t i q
theorem Agree.mono {t u:Nat→Question→Nat} {m n m' n':Nat} (h:Agree t u m n) (hm:m≤m') (hn:n'≤n):Agree t u m' n':=fun i q a b=>h i q (Nat.le_trans hm a) (Nat.lt_of_lt_of_le b hn)
theorem zh {α:Type} (P:Program) (s:Sem α) (w:World):w.drawn≤(s.run P w).w.drawn:=by
 cases e:s.run P w with
 | ok a x=>exact zb P s e
 | halt a x=>exact jq P s e
def ze {α:Type}:Sem α→Prop
 | .pure _ | .halt _=>True
 | .load _ _ k=>∀v,ze (k v)
 | .store _ _ _ k | .freeze _ _ k | .setObj _ _ k | .mark _ k=>ze k
 | .new _ k=>∀v,ze (k v)
 | .shape _ k=>∀v,ze (k v)
 | .frozen _ k=>∀v,ze (k v)
 | .getObj _ k=>∀v,ze (k v)
 | .choose _ k=>∀v,ze (k v)
 | .sys _ _=>False
 | .program k=>∀v,ze (k v)
theorem JB (p:Program) (w:World) (b:Addr) (ty:TypeId) (a:Addr) (v:Value) (m:Bool) (u:Nat→Question→Nat) :
 (w.tp u).viewStore p b ty a v m=(w.viewStore p b ty a v m).map fun r=>(r.1.tp u,r.2):=by
 have hs:(w.tp u).seen p b ty a m=w.seen p b ty a m:=rfl
 unfold World.viewStore
 rw [hs]
 simp only [bind,Except.bind,pure,Except.pure,Except.map]
 repeat' (first | rfl | split)
 all_goals first
  | rfl
  | (rename_i h1 h2;rw [h1] at h2;cases h2;rfl)
  | simp_all
theorem JU (p:Program) (w:World) (a:Addr) (v:Value) (m:Bool) (u:Nat→Question→Nat) :
 (w.tp u).farStore p a v m=(w.farStore p a v m).map fun r=>(r.1.tp u,r.2):=by
 unfold World.farStore
 have hh:(w.tp u).heap=w.heap:=rfl
 rw [hh]
 cases e:w.heap[a.block]? with
 | none=>rfl
 | some o =>
   cases o <;> first
    | rfl
    | (dsimp only
       rw [JB]
       cases w.viewStore p _ _ a v m <;> rfl)
theorem Xm {p:Program} {w w1:World} {a:Addr} {v:Value} {m:Bool} {l:List Addr} (h:w.farStore p a v m=.ok (w1,l)):w1.drawn=w.drawn∧w1.tape=w.tape:=xq h
theorem run_tp {α:Type} (P:Program) (s:Sem α) (t u:Nat→Question→Nat):ze s→∀(w:World),w.tape=t→Agree t u w.drawn (s.run P w).w.drawn→s.run P (w.tp u)=(s.run P w).tp u:=by
 induction s with
 | pure a=>intro _ w _ _;rfl
 | load m ad k ih =>
   intro hn w ht h
   simp only [Sem.run] at h ⊢
   have e1:(w.tp u).cell? ad=w.cell? ad:=rfl
   have e2:(w.tp u).farLoad P ad (m == Mode.atomic)=w.farLoad P ad (m == Mode.atomic):=rfl
   rw [e1,e2]
   cases e:w.cell? ad with
   | some v=>rw [e] at h;exact ih _ (hn _) w ht h
   | none =>
     rw [e] at h
     dsimp only at h ⊢
     cases e2:w.farLoad P ad (m == Mode.atomic) with
     | error x=>rfl
     | ok r=>rw [e2] at h;exact ih _ (hn _) w ht h
 | store m ad v k ih =>
   intro hn w ht h
   have key:v.oneCell'=true→(Sem.store m ad v k).run P (w.tp u)=((Sem.store m ad v k).run P w).tp u:=by
    intro hv
    have e1:∀w:World,(Sem.store m ad v k).run P w=match w.cell? ad with
     | some _=>if w.frozen? ad then .halt (.unsupported (.unsafePointer "a write to bytes that a string shares")) w else k.run P (w.setCell ad v)
     | none=>match w.farStore P ad v (m == Mode.atomic) with
       | .ok (w,_)=>k.run P w
       | .error h=>.halt h w:=fun w=>by cases v <;> first | rfl | simp [Value.oneCell'] at hv
    rw [e1] at h ⊢
    rw [e1,JU]
    show (match w.cell? ad with | some _=>if w.frozen? ad then _ else k.run P ((w.setCell ad v).tp u) | none=>_)=_
    cases e:w.cell? ad with
    | some x =>
      rw [e] at h
      dsimp only at h ⊢
      by_cases hf:w.frozen? ad=true
      ·rw [if_pos hf,if_pos hf];rfl
      ·rw [if_neg hf] at h
       rw [if_neg hf,if_neg hf]
       exact ih hn (w.setCell ad v) ht h
    | none =>
      rw [e] at h
      dsimp only at h ⊢
      cases e2:w.farStore P ad v (m == Mode.atomic) with
      | error x=>rfl
      | ok r =>
        rw [e2] at h
        obtain ⟨w1,l⟩:=r
        obtain ⟨h1,h2⟩:=Xm e2
        exact ih hn w1 (h2.trans ht) (h1▸h)
   cases v <;> first
    | exact key rfl
    | rfl
 | new o k ih=>intro hn w ht h;exact ih _ (hn _) { w with heap:=w.heap.push o } ht h
 | shape r k ih=>intro hn w ht h;exact ih _ (hn _) w ht h
 | freeze ad n k ih =>
   intro hn w ht h
   have e:(w.tp u).freeze ad n=(w.freeze ad n).tp u:=by
    unfold World.freeze
    split <;> rfl
   simp only [Sem.run] at h ⊢
   rw [e]
   exact ih hn (w.freeze ad n) ((by unfold World.freeze;split <;> rfl:(w.freeze ad n).tape=w.tape).trans ht) (by rw [yI];exact h)
 | frozen ad k ih=>intro hn w ht h;exact ih _ (hn _) w ht h
 | getObj r k ih =>
   intro hn w ht h
   simp only [Sem.run] at h ⊢
   have hh:(w.tp u).heap=w.heap:=rfl
   rw [hh]
   cases e:w.heap[r]? with
   | none=>rfl
   | some o =>
     rw [e] at h
     cases o <;> first
      | rfl
      | exact ih _ (hn _) w ht h
 | setObj r o k ih =>
   intro hn w ht h
   simp only [Sem.run] at h ⊢
   have hh:(w.tp u).heap=w.heap:=rfl
   rw [hh]
   cases e:w.heap[r]? with
   | none=>rfl
   | some o' =>
     rw [e] at h
     cases o' <;> first
      | rfl
      | exact ih hn { w with heap:=w.heap.setIfInBounds r o } ht h
 | choose q k ih =>
   intro hn w ht h
   simp only [Sem.run] at h ⊢
   split
   ·rename_i hq;rw [if_pos hq] at h;exact ih _ (hn _) w ht h
   ·rename_i hq;rw [if_neg hq] at h
    have hl:=zh P (k (q.cut (w.tape w.drawn q))) { w with drawn:=w.drawn+1 }
    have e:u w.drawn q=w.tape w.drawn q:=by rw [ht];exact h _ _ (Nat.le_refl _) (Nat.lt_of_lt_of_le (Nat.lt_succ_self _) hl)
    show Sem.run P (k (q.cut (u w.drawn q))) (({ w with drawn:=w.drawn+1 }:World).tp u)=_
    rw [e]
    exact ih _ (hn _) { w with drawn:=w.drawn+1 } ht (h.mono (Nat.le_succ _) (Nat.le_refl _))
 | sys c k ih=>intro hn;exact hn.elim
 | program k ih=>intro hn w ht h;exact ih _ (hn _) w ht h
 | mark m k ih=>intro hn w ht h;exact ih hn w ht h
 | halt x=>intro _ w ht h;rfl
def Tp (P:Program) {α:Type} (s:Sem α) (w:World):Prop:=∀u,Agree w.tape u w.drawn (s.run P w).w.drawn→s.run P (w.tp u)=(s.run P w).tp u
theorem Tp.of {P:Program} {α:Type} {s:Sem α} (h:ze s) (w:World):Tp P s w:=fun u hu=>run_tp P s w.tape u h w rfl hu
theorem ze.bind {α β:Type} {s:Sem α} {f:α→Sem β} (h:ze s) (k:∀a,ze (f a)):ze (s >>= f):=by
 show ze (s.bind f)
 induction s with
 | pure a=>exact k a
 | load m ad k2 ih=>exact fun v=>ih v (h v)
 | store m ad v k2 ih=>exact ih h
 | new o k2 ih=>exact fun v=>ih v (h v)
 | shape o k2 ih=>exact fun v=>ih v (h v)
 | freeze ad n k2 ih=>exact ih h
 | frozen ad k2 ih=>exact fun v=>ih v (h v)
 | getObj r k2 ih=>exact fun v=>ih v (h v)
 | setObj r o k2 ih=>exact ih h
 | choose q k2 ih=>exact fun v=>ih v (h v)
 | sys c k2 ih=>exact h.elim
 | program k2 ih=>exact fun v=>ih v (h v)
 | mark m k2 ih=>exact ih h
 | halt x=>trivial
theorem Tp.bind {P:Program} {α β:Type} {s:Sem α} {f:α→Sem β} {w:World} (h:(s.run P w).w.drawn≤((s >>= f).run P w).w.drawn→Tp P s w) (k:∀a w1,s.run P w=.ok a w1→w1.tape=w.tape∧((s.run P w).w.drawn≤((s >>= f).run P w).w.drawn→Tp P (f a) w1)):Tp P (s >>= f) w:=by
 intro u hu
 have hle:(s.run P w).w.drawn≤((s >>= f).run P w).w.drawn:=by
  rw [Sem.run_bind]
  cases e:s.run P w with
  | halt x w1=>exact Nat.le_refl _
  | ok a w1=>exact zh P (f a) w1
 have h1:=h hle u (hu.mono (Nat.le_refl _) hle)
 rw [Sem.run_bind,Sem.run_bind,h1]
 rw [Sem.run_bind] at hu
 cases e:s.run P w with
 | halt x w1=>rfl
 | ok a w1 =>
   rw [e] at hu
   have hd:=zb P s e
   obtain ⟨ht,k⟩:=k a w1 e
   have:=k hle u (fun i q a b=>by rw [ht];exact hu i q (Nat.le_trans hd a) b)
   exact this
end Go.Sim
namespace Go.Sim
open Go
def FzR (f f':Nat×Nat):Prop:=(f.1≤f.2∧f'.1≤f'.2∧(f'.1=f'.2∨(f.1≤f'.1∧f'.2≤f.2)))∨(f.1=0∧0 < f.2∧f'.2≤f.2)
inductive DefR (C:FuncId→Prop) (R:Nat→Nat→Prop):Deferred→Deferred→Prop
 | collected {r r':Nat}:R r r'→DefR C R ⟨.collected r,#[]⟩ ⟨.collected r',#[]⟩
inductive DsR (C:FuncId→Prop) (R:Nat→Nat→Prop):List Deferred→List Deferred→Prop
 | nil:DsR C R [] []
 | cons {d d':Deferred} {ds ds':List Deferred}:DefR C R d d'→DsR C R ds ds'→DsR C R (d :: ds) (d' :: ds')
structure EntR (C:FuncId→Prop) (R:Nat→Nat→Prop) (e e':MapEntry):Prop where
 key:VR C R e.key e'.key
 val:VR C R e.val e'.val
 born:e'.born=e.born
structure LoopR (C:FuncId→Prop) (D:FuncId→Code→Prop) (R:Nat→Nat→Prop) (l l':Loop):Prop where
 state:l'.state=l.state
 pending:l'.pending=l.pending
 fn:l'.fn=l.fn
 tmps:AR C R l.tmps l'.tmps
 params:l'.params=l.params
 assign:l'.assign=l.assign
 body:l'.body=l.body
 defers:R l.defers l'.defers
 okA:D l.fn l.assign
 okB:D l.fn l.body
 okP:∀x,l.pending=some x→D l.fn x
inductive OR (C:FuncId→Prop) (D:FuncId→Code→Prop) (R:Nat→Nat→Prop):Obj→Obj→Prop
 | cells {c c':Array Value} (e:TypeId) {f f':Nat×Nat}:AR C R c c'→FzR f f'→OR C D R (.cells c e f) (.cells c' e f')
 | map {es es':Array MapEntry} (k:Nat):es.size=es'.size→(∀(i:Nat) (e e':MapEntry),es[i]? = some e→es'[i]? = some e'→EntR C R e e')→OR C D R (.map es k) (.map es' k)
 | loop {l l':Loop}:LoopR C D R l l'→OR C D R (.loop l) (.loop l')
 | deferred:OR C D R (.deferred (some [])) (.deferred (some []))
 | taken:OR C D R (.deferred none) (.deferred none)
 | stringIter (s:ByteArray) (n:Nat):OR C D R (.stringIter s n) (.stringIter s n)
 | number {a a':Addr} (lost:Bool):qF R a a'→OR C D R (.number a lost) (.number a' lost)
structure Cfg where
 C:FuncId→Prop
 D:FuncId→Code→Prop
 Fz:Nat→Prop
 lim:Nat
 ng:Nat
 bs:Array Obj:=#[]
 bt:Array Obj:=#[]
def Cfg.at' (K:Cfg) (n:Nat):Cfg:={ K with lim:=n }
structure WR (K:Cfg) (R:Nat→Nat→Prop) (w w':World):Prop where
 fn:∀b c d,R b c→R b d→c=d
 inj:∀b c d,R b d→R c d→b=c
 obj:∀b c,R b c→∃o o',w.heap[b]? = some o∧w'.heap[c]? = some o'∧OR K.C K.D R o o'
 fz:∀b,K.Fz b→∃c e hi,w.heap[b]? = some (.cells c e (0,hi))∧c.size≤hi
 tape:∀i q,w.drawn+i < K.lim→w'.tape (w'.drawn+i) q=w.tape (w.drawn+i) q
 glob:∀b c,R b c→(b < K.ng↔c < K.ng)
 big:K.ng≤w.heap.size
 big':K.ng≤w'.heap.size
structure Ext (K:Cfg) (R R1:Nat→Nat→Prop) (w w' w1 w1':World):Prop where
 le:∀b c,R b c→R1 b c
 new:∀b c,R1 b c→R b c∨(w.heap.size≤b∧w'.heap.size≤c)
 size:w.heap.size≤w1.heap.size
 size':w'.heap.size≤w1'.heap.size
 stay:∀c,c < w'.heap.size→(∀b,R b c→K.Fz b)→w1'.heap[c]? = w'.heap[c]?
 tp:w1.tape=w.tape
 tp':w1'.tape=w'.tape
 os':w1'.os=w'.os
 out':w1'.output=w'.output
 held:∀b,K.Fz b→b < w.heap.size→w1.heap[b]? = w.heap[b]?
inductive EvR (K:Cfg) (R:Nat→Nat→Prop):Event→Prop
 | cell (a:Addr) (wr:Bool) (b:Nat):R b a.block→(wr=true→¬ K.Fz b)→EvR K R ⟨.cell a,wr,false⟩
 | obj (r:Nat) (wr:Bool) (b:Nat):R b r→(wr=true→¬ K.Fz b)→EvR K R ⟨.obj r,wr,false⟩
 | room:EvR K R ⟨.mark .noRoom,false,true⟩
def yY (K:Cfg) (R:Nat→Nat→Prop) (es:Array Event):Prop:=∀e∈es,EvR K R e
section
variable {C:FuncId→Prop} {D:FuncId→Code→Prop} {R R1:Nat→Nat→Prop} {K:Cfg}
theorem DefR.mono (h:∀b c,R b c→R1 b c) {d d':Deferred} (x:DefR C R d d'):DefR C R1 d d':=by
 cases x with
 | collected a=>exact .collected (h _ _ a)
theorem DsR.mono (h:∀b c,R b c→R1 b c) {d d':List Deferred} (x:DsR C R d d'):DsR C R1 d d':=by
 induction x with
 | nil=>exact .nil
 | cons a _ i=>exact .cons (a.mono h) i
theorem DsR.append {d d' e e':List Deferred} (x:DsR C R d d') (y:DsR C R e e'):DsR C R (d ++ e) (d' ++ e'):=by
 induction x with
 | nil=>exact y
 | cons a _ i=>exact .cons a i
theorem EntR.mono (h:∀b c,R b c→R1 b c) {e e':MapEntry} (x:EntR C R e e'):EntR C R1 e e':=⟨x.key.mono h,x.val.mono h,x.born⟩
theorem LoopR.mono (h:∀b c,R b c→R1 b c) {l l':Loop} (x:LoopR C D R l l'):LoopR C D R1 l l' :=
 ⟨x.state,x.pending,x.fn,x.tmps.mono h,x.params,x.assign,x.body,h _ _ x.defers,x.okA,x.okB,x.okP⟩
theorem OR.mono (h:∀b c,R b c→R1 b c) {o o':Obj} (x:OR C D R o o'):OR C D R1 o o':=by
 cases x with
 | cells e a f=>exact .cells e (a.mono h) f
 | map k s e=>exact .map k s (fun i a b x y=>(e i a b x y).mono h)
 | loop l=>exact .loop (l.mono h)
 | deferred=>exact .deferred
 | taken=>exact .taken
 | stringIter s n=>exact .stringIter s n
 | number l a=>exact .number l (a.mono h)
theorem OR.noChan {o o':Obj} (x:OR C D R o o'):o'.isChan=false:=by cases x <;> rfl
theorem EvR.mono (h:∀b c,R b c→R1 b c) {e:Event} (x:EvR K R e):EvR K R1 e:=by
 cases x with
 | cell a wr b x y=>exact .cell a wr b (h _ _ x) y
 | obj r wr b x y=>exact .obj r wr b (h _ _ x) y
 | room=>exact .room
theorem yY.mono (h:∀b c,R b c→R1 b c) {es:Array Event} (x:yY K R es):yY K R1 es:=fun e he=>(x e he).mono h
theorem yY.nil:yY K R #[]:=fun e he=>by simp at he
theorem yY.append {es fs:Array Event} (x:yY K R es) (y:yY K R fs):yY K R (es ++ fs):=fun e he=>(Array.mem_append.1 he).elim (x e) (y e)
theorem yY.one {e:Event} (x:EvR K R e):yY K R #[e]:=fun f hf=>by simp at hf;subst hf;exact x
theorem Ext.refl (w w':World):Ext K R R w w' w w':=⟨fun _ _ h=>h,fun _ _ h=>.inl h,Nat.le_refl _,Nat.le_refl _,fun _ _ _=>rfl,rfl,rfl,rfl,rfl,fun _ _ _=>rfl⟩
theorem Ext.trans {R2:Nat→Nat→Prop} {w w' w1 w1' w2 w2':World} (h:Ext K R R1 w w' w1 w1') (k:Ext K R1 R2 w1 w1' w2 w2'):Ext K R R2 w w' w2 w2':=by
 refine ⟨fun b c x=>k.le _ _ (h.le _ _ x),fun b c x=>?_,Nat.le_trans h.size k.size,Nat.le_trans h.size' k.size',fun c hc hb=>?_,k.tp.trans h.tp,k.tp'.trans h.tp',k.os'.trans h.os',k.out'.trans h.out',fun b hb hlt=>(k.held b hb (Nat.lt_of_lt_of_le hlt h.size)).trans (h.held b hb hlt)⟩
 ·rcases k.new b c x with y | ⟨y1,y2⟩
  ·exact h.new b c y
  ·exact .inr ⟨Nat.le_trans h.size y1,Nat.le_trans h.size' y2⟩
 ·rw [k.stay c (Nat.lt_of_lt_of_le hc h.size') (fun b hr=>?_),h.stay c hc hb]
  rcases h.new b c hr with y | ⟨_,y⟩
  ·exact hb b y
  ·omega
end
def yE (w:World):Prop:=∀(b:Nat) (x:List Deferred),w.heap[b]? = some (.deferred (some x))→x=[]
def jO (w w1:World):Prop:=yE w→yE w1
theorem jO.refl (w:World):jO w w:=fun h=>h
theorem jO.trans {w w1 w2:World} (h:jO w w1) (k:jO w1 w2):jO w w2:=fun e=>k (h e)
def yZ:Halt→Bool
 | .unsupported (.initOrder _) | .blocked | .waiting | .exit _ | .fatal _ | .throw _ | .goexit=>false
 | _=>true
def JJ (x:Halt) (w w1:World):Prop:=jO w w1∧yZ x=true
theorem JJ.refl {x:Halt} (w:World) (h:yZ x=true):JJ x w w:=⟨.refl w,h⟩
def Sim (K:Cfg) (P' P:Program) (R:Nat→Nat→Prop) {α β:Type} (w w':World) (s:Sem α) (s':Sem β) (Q:(Nat→Nat→Prop)→α→β→Prop):Prop :=
 (∀a w1,s.run P' w=.ok a w1→w1.drawn≤K.lim→∃R1 b w1',s'.run P w'=.ok b w1'∧WR K R1 w1 w1'∧Ext K R R1 w w' w1 w1'∧yY K R1 (s'.events P w' #[])∧Q R1 a b∧jO w w1) ∧
 (∀h w1,s.run P' w=.halt h w1→w1.drawn≤K.lim→JJ h w w1) ∧
 ((s.run P' w).w.drawn≤K.lim→Tp P' s w)
def qg (K:Cfg) (P' P:Program) (R:Nat→Nat→Prop) {α β:Type} (s:Sem α) (s':Sem β) (Q:(Nat→Nat→Prop)→α→β→Prop):Prop :=
 ∀w w',WR K R w w'→Sim K P' P R w w' s s' Q
def SimL (K:Cfg) (P' P:Program) (R:Nat→Nat→Prop) {α β:Type} (w w':World) (s:Sem α) (s':Sem β) (Q:(Nat→Nat→Prop)→α→β→Prop):Prop :=
 (∀a w1,s.run P' w=.ok a w1→w1.drawn=K.lim→∃R1 b w1',s'.run P w'=.ok b w1'∧WR K R1 w1 w1'∧Ext K R R1 w w' w1 w1'∧yY K R1 (s'.events P w' #[])∧Q R1 a b∧jO w w1) ∧
 (∀h w1,s.run P' w=.halt h w1→w1.drawn≤K.lim→JJ h w w1) ∧
 ((s.run P' w).w.drawn≤K.lim→Tp P' s w)
def xV (K:Cfg) (P' P:Program) (R:Nat→Nat→Prop) {α β:Type} (s:Sem α) (s':Sem β) (Q:(Nat→Nat→Prop)→α→β→Prop):Prop :=
 ∀w w',WR K R w w'→SimL K P' P R w w' s s' Q
section
variable {K:Cfg} {P' P:Program} {R:Nat→Nat→Prop}
theorem qg.l {α β:Type} {s:Sem α} {s':Sem β} {Q:(Nat→Nat→Prop)→α→β→Prop} (h:qg K P' P R s s' Q):xV K P' P R s s' Q:=fun w w' hw =>
 ⟨fun a w1 hr hd=>(h w w' hw).1 a w1 hr (Nat.le_of_eq hd),(h w w' hw).2⟩
theorem qg.bindL {α β α' β':Type} {s:Sem α} {s':Sem α'} {f:α→Sem β} {f':α'→Sem β'} {Q:(Nat→Nat→Prop)→α→α'→Prop} {Q':(Nat→Nat→Prop)→β→β'→Prop}
 (h:qg K P' P R s s' Q) (k:∀R1 a b,(∀x y,R x y→R1 x y)→Q R1 a b→xV K P' P R1 (f a) (f' b) Q'):xV K P' P R (s >>= f) (s' >>= f') Q':=by
 intro w w' hw
 refine ⟨fun a w2 hr hd=>?_,fun x w2 hr hd=>?_,fun hd=>Tp.bind (fun hl=>(h w w' hw).2.2 (Nat.le_trans hl hd)) fun a w1 e=>?_⟩
 ·rw [Sem.run_bind] at hr
  cases e:s.run P' w with
  | halt x y=>rw [e] at hr;cases hr
  | ok a1 w1 =>
    rw [e] at hr
    simp only [Result.andThen_ok] at hr
    have hd1:w1.drawn≤K.lim:=Nat.le_trans (zb P' _ hr) (Nat.le_of_eq hd)
    obtain ⟨R1,b1,w1',e1,hw1,hx1,hv1,hq,hk⟩:=(h w w' hw).1 a1 w1 e hd1
    obtain ⟨R2,b2,w2',e2,hw2,hx2,hv2,hq2,hk2⟩:=(k R1 a1 b1 hx1.le hq w1 w1' hw1).1 a w2 hr hd
    refine ⟨R2,b2,w2',?_,hw2,hx1.trans hx2,?_,hq2,hk.trans hk2⟩
    ·rw [Sem.run_bind,e1];exact e2
    ·rw [Sem.events_bind,e1]
     simp only [Result.evThen_ok]
     rw [Sem.events_acc]
     exact (hv1.mono hx2.le).append hv2
 ·rw [Sem.run_bind] at hr
  cases e:s.run P' w with
  | halt x y =>
    rw [e] at hr
    cases hr
    exact (h w w' hw).2.1 _ _ e hd
  | ok a1 w1 =>
    rw [e] at hr
    simp only [Result.andThen_ok] at hr
    have hd1:w1.drawn≤K.lim:=Nat.le_trans (jq P' _ hr) hd
    obtain ⟨R1,b1,w1',e1,hw1,hx1,hv1,hq,hk⟩:=(h w w' hw).1 a1 w1 e hd1
    have hh:=(k R1 a1 b1 hx1.le hq w1 w1' hw1).2.1 _ _ hr hd
    exact ⟨hk.trans hh.1,hh.2⟩
 ·have hrun:(s >>= f).run P' w=(f a).run P' w1:=by rw [Sem.run_bind,e];rfl
  have hd1:w1.drawn≤K.lim:=Nat.le_trans (zh P' (f a) w1) (hrun▸hd)
  obtain ⟨R1,b1,w1',e1,hw1,hx1,hv1,hq,hk⟩:=(h w w' hw).1 a w1 e hd1
  exact ⟨hx1.tp,fun _=>(k R1 a b1 hx1.le hq w1 w1' hw1).2.2 (hrun▸hd)⟩
theorem xV.pure {α β α' β':Type} {s:Sem α} {s':Sem α'} {f:α→β} {f':α'→β'} {Q:(Nat→Nat→Prop)→α→α'→Prop} {Q':(Nat→Nat→Prop)→β→β'→Prop}
 (h:xV K P' P R s s' Q) (k:∀R1 a b,(∀x y,R x y→R1 x y)→Q R1 a b→Q' R1 (f a) (f' b)):xV K P' P R (s >>= fun a=>Pure.pure (f a)) (s' >>= fun a=>Pure.pure (f' a)) Q':=by
 intro w w' hw
 have ed:((s >>= fun a=>Pure.pure (f a)).run P' w).w.drawn=(s.run P' w).w.drawn:=by rw [Sem.run_bind];cases s.run P' w <;> rfl
 refine ⟨fun a w2 hr hd=>?_,fun x w2 hr hd=>?_,fun hd u hu=>(by
  rw [ed] at hd hu
  rw [Sem.run_bind,Sem.run_bind,(h w w' hw).2.2 hd u hu]
  cases s.run P' w <;> rfl)⟩
 ·rw [Sem.run_bind] at hr
  cases e:s.run P' w with
  | halt x y=>rw [e] at hr;cases hr
  | ok a1 w1 =>
    rw [e] at hr
    simp only [Result.andThen_ok,Sem.run_pure,Result.ok.injEq] at hr
    obtain ⟨rfl,rfl⟩:=hr
    obtain ⟨R1,b1,w1',e1,hw1,hx1,hv1,hq,hk⟩:=(h w w' hw).1 a1 w1 e hd
    refine ⟨R1,f' b1,w1',?_,hw1,hx1,?_,k R1 a1 b1 hx1.le hq,hk⟩
    ·rw [Sem.run_bind,e1];rfl
    ·rw [Sem.events_bind,e1]
     simp only [Result.evThen_ok]
     rw [Sem.events_acc]
     exact hv1.append (by rw [Sem.events_pure];exact yY.nil)
 ·rw [Sem.run_bind] at hr
  cases e:s.run P' w with
  | halt x y=>rw [e] at hr;cases hr;exact (h w w' hw).2.1 _ _ e hd
  | ok a1 w1=>rw [e] at hr;cases hr
theorem qg.bind {α β α' β':Type} {s:Sem α} {s':Sem α'} {f:α→Sem β} {f':α'→Sem β'} {Q:(Nat→Nat→Prop)→α→α'→Prop} {Q':(Nat→Nat→Prop)→β→β'→Prop}
 (h:qg K P' P R s s' Q) (k:∀R1 a b,(∀x y,R x y→R1 x y)→Q R1 a b→qg K P' P R1 (f a) (f' b) Q'):qg K P' P R (s >>= f) (s' >>= f') Q':=by
 intro w w' hw
 refine ⟨fun a w2 hr hd=>?_,fun x w2 hr hd=>?_,fun hd=>Tp.bind (fun hl=>(h w w' hw).2.2 (Nat.le_trans hl hd)) fun a w1 e=>?_⟩
 ·rw [Sem.run_bind] at hr
  cases e:s.run P' w with
  | halt x y=>rw [e] at hr;cases hr
  | ok a1 w1 =>
    rw [e] at hr
    simp only [Result.andThen_ok] at hr
    have hd1:w1.drawn≤K.lim:=Nat.le_trans (zb P' _ hr) hd
    obtain ⟨R1,b1,w1',e1,hw1,hx1,hv1,hq,hk⟩:=(h w w' hw).1 a1 w1 e hd1
    obtain ⟨R2,b2,w2',e2,hw2,hx2,hv2,hq2,hk2⟩:=(k R1 a1 b1 hx1.le hq w1 w1' hw1).1 a w2 hr hd
    refine ⟨R2,b2,w2',?_,hw2,hx1.trans hx2,?_,hq2,hk.trans hk2⟩
    ·rw [Sem.run_bind,e1];exact e2
    ·rw [Sem.events_bind,e1]
     simp only [Result.evThen_ok]
     rw [Sem.events_acc]
     exact (hv1.mono hx2.le).append hv2
 ·rw [Sem.run_bind] at hr
  cases e:s.run P' w with
  | halt x y =>
    rw [e] at hr
    cases hr
    exact (h w w' hw).2.1 _ _ e hd
  | ok a1 w1 =>
    rw [e] at hr
    simp only [Result.andThen_ok] at hr
    have hd1:w1.drawn≤K.lim:=Nat.le_trans (jq P' _ hr) hd
    obtain ⟨R1,b1,w1',e1,hw1,hx1,hv1,hq,hk⟩:=(h w w' hw).1 a1 w1 e hd1
    have hh:=(k R1 a1 b1 hx1.le hq w1 w1' hw1).2.1 _ _ hr hd
    exact ⟨hk.trans hh.1,hh.2⟩
 ·have hrun:(s >>= f).run P' w=(f a).run P' w1:=by rw [Sem.run_bind,e];rfl
  have hd1:w1.drawn≤K.lim:=Nat.le_trans (zh P' (f a) w1) (hrun▸hd)
  obtain ⟨R1,b1,w1',e1,hw1,hx1,hv1,hq,hk⟩:=(h w w' hw).1 a w1 e hd1
  exact ⟨hx1.tp,fun _=>(k R1 a b1 hx1.le hq w1 w1' hw1).2.2 (hrun▸hd)⟩
theorem qg.pure {α β:Type} {a:α} {b:β} {Q:(Nat→Nat→Prop)→α→β→Prop} (h:Q R a b):qg K P' P R (Pure.pure a:Sem α) (Pure.pure b) Q:=by
 intro w w' hw
 refine ⟨fun x w1 hr _=>?_,fun x w1 hr _=>(by cases hr),fun _=>Tp.of (by exact trivial) w⟩
 cases hr
 exact ⟨R,b,w',rfl,hw,.refl w w',yY.nil,h,.refl w⟩
theorem qg.lost {α β:Type} {s:Sem α} {s':Sem β} {Q:(Nat→Nat→Prop)→α→β→Prop} (h:∀P w,∃x w1,s.run P w=.halt x w1∧JJ x w w1) (hn:ze s):qg K P' P R s s' Q:=fun w _ _=>by
 obtain ⟨x,w1,e,hk⟩:=h P' w
 refine ⟨fun a w2 hr _=>?_,fun y w2 hr _=>?_,fun _=>.of hn w⟩
 ·rw [e] at hr;cases hr
 ·rw [e] at hr;cases hr;exact hk
theorem qg.halted {α β γ:Type} {x:Halt} {f:γ→Sem α} {s':Sem β} {Q:(Nat→Nat→Prop)→α→β→Prop} (hx:yZ x=true:=by rfl):qg K P' P R ((.halt x:Sem γ) >>= f) s' Q:=.lost (fun _ w=>⟨x,w,rfl,.refl w hx⟩) trivial
theorem qg.stuck {α β:Type} {s':Sem β} {why:String} {Q:(Nat→Nat→Prop)→α→β→Prop}:qg K P' P R (Go.stuck why:Sem α) s' Q:=.lost (fun _ w=>⟨_,w,rfl,.refl w rfl⟩) trivial
theorem qg.unsupported {α β:Type} {s':Sem β} {u:Unsupported} {Q:(Nat→Nat→Prop)→α→β→Prop} (hu:yZ (.unsupported u)=true:=by rfl):qg K P' P R (Go.unsupported u:Sem α) s' Q:=.lost (fun _ w=>⟨_,w,rfl,.refl w hu⟩) trivial
theorem jO.push (w:World) {o:Obj} (ho:∀x,o=.deferred (some x)→x=[]):jO w { w with heap:=w.heap.push o }:=fun h b x e=>by
 simp only [Array.getElem?_push] at e
 split at e
 ·cases e;exact ho x rfl
 ·exact h b x e
theorem OR.noDef {C:FuncId→Prop} {D:FuncId→Code→Prop} {R:Nat→Nat→Prop} {o o':Obj} (h:OR C D R o o'):∀x,o=.deferred (some x)→x=[]:=by
 intro x e
 subst e
 cases h;rfl
theorem zy {α:Type} (e:RuntimeError) (P:Program) (w:World):∃x w1,(Go.runtimePanic e:Sem α).run P w=.halt x w1∧JJ x w w1:=by
 have el:∀(t:TypeId) (w:World),(∃x,(Go.elemOf t).run P w=.ok x w)∨∃x,(Go.elemOf t).run P w=.halt x w∧yZ x=true:=fun t w=>by
  unfold Go.elemOf Go.underlying
  simp only [Sem.run_bind,run_program,Result.andThen_ok]
  cases P.underlying t with
  | none=>exact .inr ⟨_,rfl,rfl⟩
  | some d=>cases d <;> first | exact .inr ⟨_,rfl,rfl⟩ | exact .inl ⟨_,rfl⟩
 unfold Go.runtimePanic
 cases e <;> simp only [Sem.run_bind,run_program,Result.andThen_ok,run_goPanic] <;> first
  | exact ⟨_,_,rfl,.refl w rfl⟩
  | (rcases el _ w with ⟨x,hx⟩ | ⟨x,hx,ht⟩
     ·rw [hx]
      simp only [Result.andThen_ok,Go.newVar,Go.newRow,Sem.run_bind,run_newObj,Sem.run_pure]
      exact ⟨_,_,rfl,.push w (fun _ e=>by cases e),rfl⟩
     ·rw [hx];exact ⟨_,_,rfl,.refl w ht⟩)
theorem XQ (t:TypeId):ze (Go.elemOf t):=by
 unfold Go.elemOf Go.underlying
 refine ze.bind (ze.bind (fun P=>trivial) fun P=>?_) fun d=>?_
 ·split <;> trivial
 ·split <;> trivial
theorem xD {α β:Type} (e:RuntimeError) (f:α→Sem β):ze ((Go.runtimePanic e:Sem α) >>= f):=by
 unfold Go.runtimePanic
 rw [bind_assoc]
 refine ze.bind (fun P=>trivial) fun p=>?_
 have nv:∀(t:TypeId) (v:Value),ze (Go.newVar t v):=fun t v=>by
  unfold Go.newVar Go.newRow
  exact fun r=>trivial
 cases e <;> first
  | exact trivial
  | (dsimp only
     rw [bind_assoc]
     refine ze.bind (XQ _) fun t=>?_
     rw [bind_assoc]
     exact ze.bind (nv _ _) fun r=>trivial)
theorem yu {α:Type} (e:RuntimeError):ze (Go.runtimePanic e:Sem α):=by
 have h:=xD (α:=α) e (fun a=>Pure.pure a)
 rwa [bind_pure] at h
theorem qg.runtimePanic {α β:Type} {s':Sem β} {e:RuntimeError} {Q:(Nat→Nat→Prop)→α→β→Prop}:qg K P' P R (Go.runtimePanic e:Sem α) s' Q:=.lost (fun P w=>zy e P w) (yu e)
theorem qg.panicked {α β γ:Type} {e:RuntimeError} {f:γ→Sem α} {s':Sem β} {Q:(Nat→Nat→Prop)→α→β→Prop}:qg K P' P R ((Go.runtimePanic e:Sem γ) >>= f) s' Q:=.lost (fun P w=>by
 obtain ⟨x,w1,h,k⟩:=zy (α:=γ) e P w
 exact ⟨x,w1,by rw [Sem.run_bind,h];rfl,k⟩) (xD e f)
theorem qg.boundsPanic {α β:Type} {s':Sem β} {k:IntKind} {x y:Int} {c:BoundsCode} {Q:(Nat→Nat→Prop)→α→β→Prop}:qg K P' P R (Go.boundsPanic k x y c:Sem α) s' Q:=by
 refine .lost (fun P w=>?_) (by
  unfold Go.boundsPanic
  dsimp only
  split
  ·exact ze.bind (by rw [map_eq_pure_bind];exact fun n=>trivial) fun b=>yu _
  ·exact ze.bind (by exact trivial) fun b=>yu _)
 ·have key:∀(s:Sem Bool),(∃b w2,s.run P w=.ok b w2∧w2.heap=w.heap)→∃z w1,(s >>= fun b=>(Go.runtimePanic (.bounds (IntKind.i64.wrap x) y b c):Sem α)).run P w=.halt z w1∧JJ z w w1:=fun s ⟨b,w2,e,hh⟩=>by
   rw [Sem.run_bind,e]
   obtain ⟨z,w1,h1,h2⟩:=zy (α:=α) (.bounds (IntKind.i64.wrap x) y b c) P w2
   exact ⟨z,w1,h1,fun hn=>h2.1 fun i x hi=>hn i x (hh▸hi),h2.2⟩
  unfold Go.boundsPanic
  dsimp only
  split
  ·refine key _ ?_
   rw [Sem.run_map,run_choose]
   split
   ·exact ⟨_,_,rfl,rfl⟩
   ·exact ⟨_,_,rfl,rfl⟩
  ·exact key _ ⟨_,_,rfl,rfl⟩
theorem qg.mono {α β:Type} {s:Sem α} {s':Sem β} {Q Q':(Nat→Nat→Prop)→α→β→Prop} (h:qg K P' P R s s' Q) (k:∀R1 a b,(∀x y,R x y→R1 x y)→Q R1 a b→Q' R1 a b):qg K P' P R s s' Q':=by
 intro w w' hw
 refine ⟨fun a w1 hr hd=>?_,(h w w' hw).2.1,(h w w' hw).2.2⟩
 obtain ⟨R1,b,w1',e,h1,h2,h3,h4,h5⟩:=(h w w' hw).1 a w1 hr hd
 exact ⟨R1,b,w1',e,h1,h2,h3,k _ _ _ h2.le h4,h5⟩
end
end Go.Sim
section
namespace Go.Sim
open Go
def xW (v:Value):Prop:=∀(C:FuncId→Prop) (R:Nat→Nat→Prop),VR C R v v
def xe (xs:Array Value):Prop:=∀(C:FuncId→Prop) (R:Nat→Nat→Prop),AR C R xs xs
theorem xW.cells {v:Value} (h:xW v):xe v.cells:=fun C R=>(h C R).cells
theorem xe.agg {xs:Array Value} (h:xe xs):xW (.agg xs):=fun C R=>(h C R).agg
theorem xe.append {xs ys:Array Value} (h:xe xs) (k:xe ys):xe (xs ++ ys):=fun C R=>(h C R).append (k C R)
theorem qcr {xs:Array Value} (h:∀x∈xs,xW x):xe xs:=fun C R=>⟨rfl,fun i x x' a b=>by
 rw [a] at b;cases b
 exact h x (Array.mem_of_getElem? a) C R⟩
theorem xe.mem {xs:Array Value} (h:xe xs) {x:Value} (hx:x∈xs):xW x:=fun C R=>by
 obtain ⟨i,hi,rfl⟩:=Array.mem_iff_getElem.1 hx
 exact (h C R).el i _ _ (Array.getElem?_eq_getElem hi) (Array.getElem?_eq_getElem hi)
theorem XT {α β:Type} {P:β→Prop} {body:α→β→Option (ForInStep β)} (hb:∀a s r,body a s=some r→P s→P r.value):∀(l:List α) (s s':β),forIn l s body=some s'→P s→P s'
 | [],s,s',h,hp=>by
   simp at h;subst h;exact hp
 | a :: l,s,s',h,hp=>by
   rw [List.forIn_cons] at h
   cases e:body a s with
   | none=>rw [e] at h;cases h
   | some r =>
     rw [e] at h
     have h1:=hb a s r e hp
     cases r with
     | done b=>simp at h;subst h;exact h1
     | yield b=>exact XT hb l b s' h h1
variable {info:TypeId→Option TypeInfo}
theorem QZ (hinfo:∀t i v,info t=some i→i.zero=some v→xW v) {fs:Array Field} {i:TypeInfo} {v:Value} (h:Made.reckonStruct info fs=some i) (hz:i.zero=some v):xW v:=by
 unfold Made.reckonStruct at h
 simp only [Option.bind_eq_bind,Option.pure_def] at h
 rw [← Array.forIn_toList] at h
 obtain ⟨s,hs,e⟩:=Option.bind_eq_some_iff.1 h
 have hkey:∀cs,s.2.2.2.2.2.2.2.1=some cs→xe cs:=by
  refine XT (P:=fun s=>∀cs,s.2.2.2.2.2.2.2.1=some cs→xe cs) (fun f s r hr hp=>?_) _ _ _ hs (fun cs h=>by simp at h;subst h;exact fun C R=>AR.nil)
  obtain ⟨i0,hi0,hr⟩:=Option.bind_eq_some_iff.1 hr
  have fin:∀cs,(if s.2.1+i0.size > Made.mostCells then none else s.2.2.2.2.2.2.2.1.bind fun x=>i0.zero.bind fun y=>some (x ++ y.cells))=some cs→xe cs:=fun cs hcs=>by
   split at hcs
   ·cases hcs
   ·obtain ⟨a,ha,hcs⟩:=Option.bind_eq_some_iff.1 hcs
    obtain ⟨b,hb,e⟩:=Option.bind_eq_some_iff.1 hcs
    cases e
    exact (hp a ha).append (hinfo _ _ _ hi0 hb).cells
  clear hs h hp hinfo
  split at hr
  ·cases hr
  split at hr
  ·cases hr
  split at hr
  all_goals
   obtain ⟨tag,_,hr⟩:=Option.bind_eq_some_iff.1 hr
   split at hr <;> (cases hr;exact fin)
 split at e
 all_goals
  cases e
  simp only at hz
  obtain ⟨cs,hcs,rfl⟩:=Option.map_eq_some_iff.1 hz
  exact (hkey cs hcs).agg
theorem qam (hinfo:∀t i v,info t=some i→i.zero=some v→xW v) {d:TypeDesc} {i:TypeInfo} {v:Value} (h:Made.reckon info d=some i) (hz:i.zero=some v):xW v:=by
 have word:∀{a:TypeDesc} {s:String} {z:Value} {c:Bool} {b:Nat},xW z→(Made.word a s z c b).zero=some v→xW v:=fun hz h=>by cases h;exact hz
 cases d with
 | struct fs=>exact QZ hinfo h hz
 | pointer e =>
   unfold Made.reckon at h
   simp only [Option.bind_eq_bind,Option.pure_def] at h
   obtain ⟨i0,hi0,h⟩:=Option.bind_eq_some_iff.1 h
   have pn:xW (.pointer none):=fun _ _=>.pnil
   split at h
   ·cases h
   ·split at h
    ·cases h
    ·obtain ⟨_,_,e⟩:=Option.bind_eq_some_iff.1 h
     cases e;exact word pn hz
   ·obtain ⟨_,_,e⟩:=Option.bind_eq_some_iff.1 h
    cases e;exact word pn hz
 | slice e =>
   unfold Made.reckon at h
   simp only [Option.bind_eq_bind,Option.pure_def] at h
   obtain ⟨i0,hi0,h⟩:=Option.bind_eq_some_iff.1 h
   obtain ⟨_,_,e⟩:=Option.bind_eq_some_iff.1 h
   cases e;exact word (fun _ _=>.snil _ _) hz
 | map k e =>
   unfold Made.reckon at h
   simp only [Option.bind_eq_bind,Option.pure_def] at h
   obtain ⟨i0,hi0,h⟩:=Option.bind_eq_some_iff.1 h
   obtain ⟨_,_,h⟩:=Option.bind_eq_some_iff.1 h
   obtain ⟨i0,hi0,h⟩:=Option.bind_eq_some_iff.1 h
   obtain ⟨_,_,e⟩:=Option.bind_eq_some_iff.1 h
   cases e;exact word (fun _ _=>.mnil) hz
 | chan dir e =>
   unfold Made.reckon at h
   simp only [Option.bind_eq_bind,Option.pure_def] at h
   obtain ⟨i0,hi0,h⟩:=Option.bind_eq_some_iff.1 h
   obtain ⟨_,_,e⟩:=Option.bind_eq_some_iff.1 h
   cases e;exact word (fun _ _=>.cnil) hz
 | func ps rs vv =>
   unfold Made.reckon at h
   simp only [Option.bind_eq_bind,Option.pure_def] at h
   obtain ⟨_,_,e⟩:=Option.bind_eq_some_iff.1 h
   cases e;exact word (fun _ _=>.nilFunc) hz
 | array n e =>
   unfold Made.reckon at h
   simp only [Option.bind_eq_bind,Option.pure_def] at h
   obtain ⟨i0,hi0,h⟩:=Option.bind_eq_some_iff.1 h
   obtain ⟨_,_,e⟩:=Option.bind_eq_some_iff.1 h
   cases e
   simp only at hz
   split at hz
   ·cases hz
   ·split at hz
    ·cases hz;exact xe.agg fun C R=>AR.nil
    ·obtain ⟨z,hz0,rfl⟩:=Option.map_eq_some_iff.1 hz
     refine (qcr fun x hx=>?_).agg
     obtain ⟨ys,h1,h2⟩:=Array.mem_flatten.1 hx
     have:=Array.eq_of_mem_replicate h1
     subst this
     exact (hinfo _ _ _ hi0 hz0).cells.mem h2
 | _=>simp [Made.reckon] at h
theorem qdu {T:Tables} (hT:∀(k:Nat) (i:TypeInfo) (v:Value),T.types[k]? = some i→i.zero=some v→xW v) {t:TypeId} {i:TypeInfo} {v:Value} (h:T.info? t=some i) (hz:i.zero=some v):xW v:=by
 have key:∀(f:Nat) (t:TypeId) (i:TypeInfo) (v:Value),Made.infoAt T f t=some i→i.zero=some v→xW v:=by
  intro f
  induction f with
  | zero=>intro t i v h;unfold Made.infoAt at h;cases h
  | succ f ih =>
    intro t i v h hz
    unfold Made.infoAt at h
    split at h
    ·exact hT _ _ _ h hz
    ·obtain ⟨d,_,h⟩:=Option.bind_eq_some_iff.1 h
     exact qam ih h hz
 unfold Tables.info? at h
 split at h
 ·exact hT _ _ _ h hz
 ·exact key _ _ _ _ h hz
end Go.Sim
end
namespace Go.Sim
open Go
section
variable {K:Cfg} {P' P:Program} {R:Nat→Nat→Prop} {w w':World}
theorem WR.cells {b c:Nat} {xs:Array Value} {e:TypeId} {f:Nat×Nat} (h:WR K R w w') (hr:R b c) (hb:w.heap[b]? = some (.cells xs e f)) :
 ∃xs' f',w'.heap[c]? = some (.cells xs' e f')∧AR K.C R xs xs'∧FzR f f':=by
 obtain ⟨o,o',h1,h2,h3⟩:=h.obj b c hr
 rw [hb] at h1;cases h1
 cases h3 with | cells e a f=>exact ⟨_,_,h2,a,f⟩
theorem WR.cell {a a':Addr} {v:Value} (h:WR K R w w') (ha:qF R a a') (hc:w.cell? a=some v):∃v',w'.cell? a'=some v'∧VR K.C R v v':=by
 obtain ⟨h1,h2,h3⟩:=ha
 unfold World.cell? at hc ⊢
 split at hc
 ·rename_i xs e f hb
  obtain ⟨xs',f',e',ar,_⟩:=h.cells h1 hb
  rw [e']
  simp only [h2,h3]
  split at hc
  ·cases hc
  ·rw [if_neg ‹_›];exact ar.get hc
 ·cases hc
theorem WR.noCell {a a':Addr} (h:WR K R w w') (ha:qF R a a') (what:String):yZ (w.noCell a what)=true:=by
 obtain ⟨o,o',h1,_,h3⟩:=h.obj _ _ ha.1
 unfold World.noCell
 rw [h1]
 cases h3 <;> rfl
theorem WR.noFarLoad {a a':Addr} (h:WR K R w w') (ha:qF R a a') (p:Program) (m:Bool):∃e,w.farLoad p a m=.error e∧yZ e=true:=by
 have k:=h.noCell ha
 obtain ⟨o,o',h1,_,h3⟩:=h.obj _ _ ha.1
 unfold World.farLoad
 rw [h1]
 cases h3 <;> exact ⟨_,rfl,k _⟩
theorem WR.noFarStore {a a':Addr} (h:WR K R w w') (ha:qF R a a') (p:Program) (v:Value) (m:Bool):∃e,w.farStore p a v m=.error e∧yZ e=true:=by
 have k:=h.noCell ha
 obtain ⟨o,o',h1,_,h3⟩:=h.obj _ _ ha.1
 unfold World.farStore
 rw [h1]
 cases h3 <;> exact ⟨_,rfl,k _⟩
theorem WR.notFrozen {a a':Addr} {v:Value} (h:WR K R w w') (ha:qF R a a') (hc:w.cell? a=some v) (hf:w.frozen? a=false):w'.frozen? a'=false∧¬ K.Fz a.block:=by
 obtain ⟨h1,h2,h3⟩:=ha
 unfold World.cell? at hc
 split at hc
 ·rename_i xs e f hb
  obtain ⟨xs',f',e',ar,hz⟩:=h.cells h1 hb
  unfold World.frozen? at hf ⊢
  rw [hb] at hf
  rw [e']
  obtain ⟨lo,hi⟩:=f
  obtain ⟨lo',hi'⟩:=f'
  simp only [Bool.and_eq_false_iff,decide_eq_false_iff_not,Nat.not_le,Nat.not_lt] at hf ⊢
  unfold FzR at hz
  simp only at hz
  refine ⟨by rw [h2];omega,fun hz=>?_⟩
  obtain ⟨c,e2,hi2,hh,hsz⟩:=h.fz _ hz
  rw [hb] at hh
  simp only [Option.some.injEq,Obj.cells.injEq,Prod.mk.injEq] at hh
  obtain ⟨rfl,_,rfl,rfl⟩:=hh
  split at hc
  ·cases hc
  ·have:=(Array.getElem?_eq_some_iff.1 hc).1
   omega
 ·cases hc
theorem heap_setCell_same {w:World} {a:Addr} {v:Value} {xs:Array Value} {e:TypeId} {f:Nat×Nat} (h:w.heap[a.block]? = some (.cells xs e f)) :
 (w.setCell a v).heap[a.block]? = some (.cells (if a.spot.isSome then xs else xs.setIfInBounds a.off v) e f):=by
 simp only [World.setCell,Array.getElem?_modify,if_true,h,Option.map_some]
theorem qZ {w:World} {a:Addr} {v:Value} {b:Nat} (h:a.block≠b):(w.setCell a v).heap[b]? = w.heap[b]? := by
 simp only [World.setCell,Array.getElem?_modify,if_neg h]
theorem WR.setCell {a a':Addr} {v v' x:Value} (h:WR K R w w') (ha:qF R a a') (hc:w.cell? a=some x) (hz:¬ K.Fz a.block) (hv:VR K.C R v v'):WR K R (w.setCell a v) (w'.setCell a' v'):=by
 refine ⟨h.fn,h.inj,fun b c hr=>?_,fun b hb=>?_,fun i q hi=>h.tape i q hi,h.glob,by simpa [World.setCell] using h.big,by simpa [World.setCell] using h.big'⟩
 ·by_cases e:a.block=b
  ·subst e
   obtain rfl:=h.fn _ _ _ hr ha.1
   unfold World.cell? at hc
   split at hc
   ·rename_i xs e f hb
    obtain ⟨xs',f',e',ar,hzz⟩:=h.cells hr hb
    refine ⟨_,_,heap_setCell_same hb,heap_setCell_same e',?_⟩
    rw [ha.2.2,ha.2.1]
    refine .cells e ?_ hzz
    split
    ·exact ar
    ·exact ar.set _ hv
   ·cases hc
  ·have e':a'.block≠c:=fun x=>e (h.inj _ _ _ (x▸ha.1) hr)
   rw [qZ e,qZ e']
   exact h.obj b c hr
 ·have e:a.block≠b:=fun x=>hz (x▸hb)
  rw [qZ e];exact h.fz b hb
theorem Ext.setCell {a a':Addr} {v v':Value} (ha:qF R a a') (hz:¬ K.Fz a.block):Ext K R R w w' (w.setCell a v) (w'.setCell a' v'):=by
 refine ⟨fun _ _ h=>h,fun _ _ h=>.inl h,by simp [World.setCell],by simp [World.setCell],fun c _ hb=>?_,rfl,rfl,rfl,rfl,fun b hb _=>?_⟩
 ·exact qZ fun e=>hz (hb _ (e▸ha.1))
 ·exact qZ fun e=>hz (e▸hb)
theorem jO.setCell (w:World) (a:Addr) (v:Value):jO w (w.setCell a v):=fun h b x e=>by
 by_cases hb:a.block=b
 ·subst hb
  simp only [World.setCell,Array.getElem?_modify,if_true] at e
  cases e1:w.heap[a.block]? with
  | none=>rw [e1] at e;cases e
  | some o =>
    rw [e1] at e
    cases o <;> simp only [Option.map_some,Option.some.injEq] at e <;> first
     | (cases e;done)
     | (cases e;exact h _ x e1)
 ·rw [qZ hb] at e;exact h b x e
theorem qg.load {a a':Addr} (ha:qF R a a'):qg K P' P R (Go.load a) (Go.load a') (fun R1 v v'=>VR K.C R1 v v'):=by
 intro w w' hw
 refine ⟨fun v w1 hr _=>?_,fun x w1 hr _=>?_,fun _=>Tp.of (by exact fun _=>trivial) w⟩
 rotate_left
 ·rw [run_load] at hr
  split at hr
  ·cases hr
  ·obtain ⟨e,he,ht⟩:=hw.noFarLoad ha P' (Mode.plain == .atomic)
   rw [he] at hr
   cases hr;exact .refl w ht
 rw [run_load] at hr
 cases hc:w.cell? a with
 | none =>
   obtain ⟨e,he,_⟩:=hw.noFarLoad ha P' (Mode.plain == .atomic)
   rw [hc,he] at hr;cases hr
 | some x =>
   rw [hc] at hr;cases hr
   obtain ⟨v',e',hv⟩:=hw.cell ha hc
   refine ⟨R,v',w',by rw [run_load,e'],hw,.refl _ _,?_,hv,.refl w⟩
   rw [events_load,e']
   exact yY.one (.cell a' false a.block ha.1 (by simp))
theorem qg.store {a a':Addr} {v v':Value} (ha:qF R a a') (hv:VR K.C R v v'):qg K P' P R (Go.store a v) (Go.store a' v') (fun _ _ _=>True):=by
 intro w w' hw
 refine ⟨fun u w1 hr _=>?_,fun x w1 hr _=>?_,fun _=>Tp.of (by exact trivial) w⟩
 rotate_left
 ·by_cases ho:v.oneCell'=true
  ·rw [run_store P' w a v .plain ho] at hr
   split at hr
   ·split at hr
    ·cases hr;exact .refl w rfl
    ·cases hr
   ·obtain ⟨e,he,ht⟩:=hw.noFarStore ha P' v (Mode.plain == .atomic)
    rw [he] at hr
    cases hr;exact .refl w ht
  ·cases v <;> simp [Value.oneCell'] at ho <;> simp [Go.store,Sem.run] at hr <;> (obtain ⟨rfl,rfl⟩:=hr;exact .refl w rfl)
 by_cases ho:v.oneCell'=true
 ·have ho':v'.oneCell'=true:=by cases hv <;> first | rfl | simp [Value.oneCell'] at ho
  rw [run_store P' w a v .plain ho] at hr
  cases hc:w.cell? a with
  | none =>
    obtain ⟨e,he,_⟩:=hw.noFarStore ha P' v (Mode.plain == .atomic)
    rw [hc,he] at hr;cases hr
  | some x =>
    rw [hc] at hr
    simp only at hr
    split at hr
    ·cases hr
    ·rename_i hf
     cases hr
     simp only [Bool.not_eq_true] at hf
     obtain ⟨hf',hz⟩:=hw.notFrozen ha hc hf
     obtain ⟨x',e',_⟩:=hw.cell ha hc
     refine ⟨R,(),w'.setCell a' v',?_,hw.setCell ha hc hz hv,.setCell ha hz,?_,trivial,.setCell w a v⟩
     ·rw [run_store P w' a' v' .plain ho',e'];simp [hf']
     ·rw [events_store P w' #[] a' v' .plain ho',e']
      simp only [hf',Bool.false_eq_true,if_false]
      exact yY.one (.cell a' true a.block ha.1 (fun _=>hz))
 ·exfalso
  cases v <;> simp [Value.oneCell'] at ho <;> simp [Go.store,Sem.run] at hr
def Rnew (R:Nat→Nat→Prop) (b c:Nat):Nat→Nat→Prop:=fun x y=>R x y∨(x=b∧y=c)
theorem qg.newObj {o o':Obj} (ho:OR K.C K.D R o o'):qg K P' P R (Go.newObj o) (Go.newObj o') (fun R1 r r'=>R1 r r'):=by
 intro w w' hw
 refine ⟨fun r w1 hr _=>?_,fun x w1 hr _=>(by rw [run_newObj] at hr;cases hr),fun _=>Tp.of (by exact fun _=>trivial) w⟩
 rw [run_newObj] at hr
 cases hr
 have lt:∀b c,R b c→b < w.heap.size∧c < w'.heap.size:=fun b c h=>by
  obtain ⟨x,y,h1,h2,_⟩:=hw.obj b c h
  exact ⟨(Array.getElem?_eq_some_iff.1 h1).1,(Array.getElem?_eq_some_iff.1 h2).1⟩
 have le:∀b c,R b c→Rnew R w.heap.size w'.heap.size b c:=fun _ _ h=>.inl h
 refine ⟨Rnew R w.heap.size w'.heap.size,w'.heap.size,{ w' with heap:=w'.heap.push o' },rfl,⟨fun b c d h k=>?_,fun b c d h k=>?_,fun b c h=>?_,fun b hb=>?_,hw.tape,fun b c h=>?_,by have:=hw.big;simp;omega,by have:=hw.big';simp;omega⟩,
  ⟨le,fun b c h=>h.imp id (fun ⟨x,y⟩=>⟨by omega,by omega⟩),by simp,by simp,fun c hc _=>?_,rfl,rfl,rfl,rfl,fun b _ hlt=>(by simp only [Array.getElem?_push];rw [if_neg (by omega)])⟩,?_,.inr ⟨rfl,rfl⟩,.push w ho.noDef⟩
 ·rcases h with h | ⟨rfl,rfl⟩ <;> rcases k with k | ⟨k1,k2⟩
  ·exact hw.fn _ _ _ h k
  ·have:=lt _ _ h;omega
  ·have:=lt _ _ k;omega
  ·exact k2.symm
 ·rcases h with h | ⟨rfl,rfl⟩ <;> rcases k with k | ⟨k1,k2⟩
  ·exact hw.inj _ _ _ h k
  ·have:=lt _ _ h;omega
  ·have:=lt _ _ k;omega
  ·exact k1.symm
 ·rcases h with h | ⟨rfl,rfl⟩
  ·obtain ⟨x,y,h1,h2,h3⟩:=hw.obj b c h
   have:=lt _ _ h
   refine ⟨x,y,?_,?_,h3.mono le⟩
   ·simp only [Array.getElem?_push];rw [if_neg (by omega)];exact h1
   ·simp only [Array.getElem?_push];rw [if_neg (by omega)];exact h2
  ·exact ⟨o,o',by simp,by simp,ho.mono le⟩
 ·obtain ⟨c,e,hi,h1,h2⟩:=hw.fz b hb
  refine ⟨c,e,hi,?_,h2⟩
  have:=(Array.getElem?_eq_some_iff.1 h1).1
  simp only [Array.getElem?_push];rw [if_neg (by omega)];exact h1
 ·rcases h with h | ⟨rfl,rfl⟩
  ·exact hw.glob b c h
  ·have:=hw.big;have:=hw.big';omega
 ·simp only [Array.getElem?_push];rw [if_neg (by omega)]
 ·rw [events_newObj];exact yY.nil
theorem qg.shape {b c:Nat} (hr:R b c):qg K P' P R (Go.shape b) (Go.shape c) (fun _ x y=>y=x):=by
 intro w w' hw
 refine ⟨fun x w1 h _=>?_,fun x w1 h _=>(by rw [run_shape] at h;cases h),fun _=>Tp.of (by exact fun _=>trivial) w⟩
 rw [run_shape] at h;cases h
 refine ⟨R,_,w',run_shape P w' c,hw,.refl _ _,by rw [events_shape];exact yY.nil,?_,.refl w⟩
 obtain ⟨o,o',h1,h2,h3⟩:=hw.obj b c hr
 unfold World.shape?
 rw [h1,h2]
 cases h3 with
 | cells e a f=>simp [a.size]
 | _=>rfl
theorem FzR.freeze {f f':Nat×Nat} (h:FzR f f') (x n:Nat) :
 FzR (if f.1 == f.2 then (x,x+n) else (min f.1 x,max f.2 (x+n))) (if f'.1 == f'.2 then (x,x+n) else (min f'.1 x,max f'.2 (x+n))):=by
 unfold FzR at h ⊢
 simp only [beq_iff_eq]
 split <;> split <;> simp only <;> omega
theorem zn {w:World} {a:Addr} {n b:Nat} (h:a.block≠b):(w.freeze a n).heap[b]? = w.heap[b]? := by
 unfold World.freeze
 split
 ·rfl
 ·simp only [Array.getElem?_modify,if_neg h]
theorem yL {w:World} {a:Addr} {n:Nat} (hn:n≠0):(w.freeze a n).heap[a.block]? = (w.heap[a.block]?).map fun
 | .cells c e f=>.cells c e (if f.1 == f.2 then (a.off,a.off+n) else (min f.1 a.off,max f.2 (a.off+n)))
 | o=>o:=by
 unfold World.freeze
 rw [if_neg hn]
 simp only [Array.getElem?_modify,if_true]
 cases w.heap[a.block]? with
 | none=>rfl
 | some o=>cases o <;> rfl
theorem Yq (w:World) (a:Addr) (n:Nat):(w.freeze a n).heap.size=w.heap.size:=by
 unfold World.freeze;split <;> simp
theorem qg.freeze {a a':Addr} {n:Nat} (ha:qF R a a') (hz:¬ K.Fz a.block):qg K P' P R (Go.freeze a n) (Go.freeze a' n) (fun _ _ _=>True):=by
 intro w w' hw
 refine ⟨fun x w1 h _=>?_,fun x w1 h _=>(by rw [run_freeze] at h;cases h),fun _=>Tp.of (by exact trivial) w⟩
 rw [run_freeze] at h;cases h
 have hkeep:jO w (w.freeze a n):=fun h b x e=>by
  by_cases hb:a.block=b
  ·subst hb
   by_cases hn:n=0
   ·subst hn;exact h _ x (by simpa [World.freeze] using e)
   ·rw [yL hn] at e
    cases e1:w.heap[a.block]? with
    | none=>rw [e1] at e;cases e
    | some o =>
      rw [e1] at e
      cases o <;> simp only [Option.map_some,Option.some.injEq] at e <;> first
       | (cases e;done)
       | (cases e;exact h _ x e1)
  ·rw [zn hb] at e;exact h b x e
 by_cases hn:n=0
 ·subst hn
  refine ⟨R,(),w',by rw [run_freeze];simp [World.freeze],by simpa [World.freeze] using hw,?_,by rw [events_freeze];exact yY.nil,trivial,hkeep⟩
  simpa [World.freeze] using Ext.refl (K:=K) (R:=R) w w'
 refine ⟨R,(),w'.freeze a' n,run_freeze P w' a' n,⟨hw.fn,hw.inj,fun b c hr=>?_,fun b hb=>?_,fun i q hi=>?_,hw.glob,by rw [Yq];exact hw.big,by rw [Yq];exact hw.big'⟩,⟨fun _ _ h=>h,fun _ _ h=>.inl h,?_,?_,fun c _ hb=>?_,?_,?_,?_,?_,fun b hb _=>zn fun e=>hz (e▸hb)⟩,by rw [events_freeze];exact yY.nil,trivial,hkeep⟩
 ·by_cases e:a.block=b
  ·subst e
   obtain rfl:=hw.fn _ _ _ hr ha.1
   obtain ⟨o,o',h1,h2,h3⟩:=hw.obj _ _ hr
   rw [yL hn,yL hn,h1,h2]
   refine ⟨_,_,rfl,rfl,?_⟩
   cases h3 with
   | cells e x f=>simp only [ha.2.1];exact .cells e x (f.freeze _ _)
   | map k s e=>exact .map k s e
   | loop l=>exact .loop l
   | deferred=>exact .deferred
   | taken=>exact .taken
   | stringIter s n=>exact .stringIter s n
   | number l a=>exact .number l a
  ·have e':a'.block≠c:=fun x=>e (hw.inj _ _ _ (x▸ha.1) hr)
   rw [zn e,zn e']
   exact hw.obj b c hr
 ·rw [zn fun e=>hz (e▸hb)];exact hw.fz b hb
 ·rw [yI] at hi ⊢
  rw [yI]
  simpa [World.freeze,hn] using hw.tape i q hi
 ·unfold World.freeze;split <;> simp
 ·unfold World.freeze;split <;> simp
 ·exact zn fun e=>hz (hb _ (e▸ha.1))
 all_goals (unfold World.freeze;split <;> rfl)
theorem Qw {P:Program} {w w1:World} {r:Nat} {o:Obj} (h:(Go.getObj r).run P w=.ok o w1):w1=w∧w.heap[r]? = some o∧(∀c e f,o≠.cells c e f):=by
 unfold Go.getObj at h
 simp only [Sem.run] at h
 split at h
 ·cases h
 ·rename_i o' hne e
  cases h
  exact ⟨rfl,e,fun c t f he=>by subst he;exact hne c t f rfl⟩
 ·cases h
theorem XE {P:Program} {w:World} {r:Nat} {o:Obj} (h:w.heap[r]? = some o) (hn:∀c e f,o≠.cells c e f):(Go.getObj r).run P w=.ok o w:=by
 unfold Go.getObj
 simp only [Sem.run,h]
 all_goals cases o <;> first | rfl | exact absurd rfl (hn _ _ _)
theorem Zp {P:Program} {w:World} {r:Nat} {o:Obj} (h:w.heap[r]? = some o) (hn:∀c e f,o≠.cells c e f) (hc:o.isChan=false):(Go.getObj r).events P w #[]=#[⟨.obj r,false,false⟩]:=by
 unfold Go.getObj Sem.events
 simp only [Sem.runT,h]
 cases o <;> first | rfl | exact absurd rfl (hn _ _ _) | (simp [Obj.isChan] at hc)
theorem qg.getObj {b c:Nat} (hr:R b c):qg K P' P R (Go.getObj b) (Go.getObj c) (fun R1 o o'=>OR K.C K.D R1 o o'∧∀x e f,o≠.cells x e f):=by
 intro w w' hw
 refine ⟨fun o w1 h _=>?_,fun x w1 h _=>?_,fun _=>Tp.of (by exact fun _=>trivial) w⟩
 rotate_left
 ·unfold Go.getObj at h
  simp only [Sem.run] at h
  split at h <;> (cases h;first | exact .refl w rfl | skip)
 obtain ⟨rfl,h1,hn⟩:=Qw h
 obtain ⟨o1,o',e1,e2,h3⟩:=hw.obj b c hr
 rw [h1] at e1;cases e1
 have hn':∀x e f,o'≠.cells x e f:=fun x e f he=>by subst he;cases h3 with | cells=>exact hn _ _ _ rfl
 refine ⟨R,o',w',XE e2 hn',hw,.refl _ _,?_,⟨h3,hn⟩,.refl _⟩
 rw [Zp e2 hn' h3.noChan]
 exact yY.one (.obj c false b hr (by simp))
theorem qg.setObj {b c:Nat} {o o':Obj} (hr:R b c) (ho:OR K.C K.D R o o') (hn:∀x e f,o≠.cells x e f):qg K P' P R (Go.setObj b o) (Go.setObj c o') (fun _ _ _=>True):=by
 intro w w' hw
 refine ⟨fun u w1 h _=>?_,fun x w1 h _=>?_,fun _=>Tp.of (by exact trivial) w⟩
 rotate_left
 ·unfold Go.setObj at h
  simp only [Sem.run] at h
  split at h <;> (cases h;first | exact .refl w rfl | skip)
 have hn':∀x e f,o'≠.cells x e f:=fun x e f he=>by subst he;cases ho with | cells=>exact hn _ _ _ rfl
 unfold Go.setObj at h
 simp only [Sem.run] at h
 obtain ⟨o1,o1',e1,e2,h3⟩:=hw.obj b c hr
 rw [e1] at h
 have hz:¬ K.Fz b:=fun hz=>by
  obtain ⟨x,e,hi,hh,_⟩:=hw.fz b hz
  rw [e1] at hh;cases hh
  cases h
 have hlt:b < w.heap.size:=(Array.getElem?_eq_some_iff.1 e1).1
 have hlt':c < w'.heap.size:=(Array.getElem?_eq_some_iff.1 e2).1
 have hcell:∀x e f,o1≠.cells x e f:=fun x e f he=>by subst he;cases h
 have hcell':∀x e f,o1'≠.cells x e f:=fun x e f he=>by subst he;cases h3 with | cells=>exact hcell _ _ _ rfl
 have hw1:w1={ w with heap:=w.heap.setIfInBounds b o }:=by
  cases o1 <;> first | (cases h;rfl) | exact absurd rfl (hcell _ _ _)
 subst hw1
 refine ⟨R,(),{ w' with heap:=w'.heap.setIfInBounds c o' },?_,⟨hw.fn,hw.inj,fun x y hxy=>?_,fun x hx=>?_,hw.tape,hw.glob,by simpa using hw.big,by simpa using hw.big'⟩,⟨fun _ _ h=>h,fun _ _ h=>.inl h,by simp,by simp,fun y _ hb=>?_,rfl,rfl,rfl,rfl,fun x hx _=>Array.getElem?_setIfInBounds_ne fun (z:b=x)=>hz (z▸hx)⟩,?_,trivial,?_⟩
 ·unfold Go.setObj
  simp only [Sem.run,e2]
  all_goals cases o1' <;> first | rfl | exact absurd rfl (hcell' _ _ _)
 ·by_cases e:b=x
  ·subst e
   obtain rfl:=hw.fn _ _ _ hr hxy
   exact ⟨o,o',by simp [hlt],by simp [hlt'],ho⟩
  ·have e':c≠y:=fun z=>e (hw.inj _ _ _ (z▸hr) hxy)
   simp only [Array.getElem?_setIfInBounds_ne e,Array.getElem?_setIfInBounds_ne e']
   exact hw.obj x y hxy
 ·have e:b≠x:=fun z=>hz (z▸hx)
  simp only [Array.getElem?_setIfInBounds_ne e]
  exact hw.fz x hx
 ·have e:c≠y:=fun z=>hz (hb b (z▸hr))
  simp only [Array.getElem?_setIfInBounds_ne e]
 ·unfold Go.setObj Sem.events
  simp only [Sem.runT,e2]
  cases o1' <;> first
   | exact absurd rfl (hcell' _ _ _)
   | (simp only [ho.noChan];exact yY.one (.obj c true b hr (fun _=>hz)))
 ·intro hd i x e
  simp only [Array.getElem?_setIfInBounds] at e
  split at e
  ·first
    | (cases e;exact ho.noDef x rfl)
    | (split at e
       ·cases e;exact ho.noDef x rfl
       ·cases e)
  ·exact hd i x e
theorem qg.choose (q:Question):qg K P' P R (Go.choose q) (Go.choose q) (fun _ x y=>y=x):=by
 intro w w' hw
 refine ⟨fun x w1 h hd=>?_,fun x w1 h _=>(by rw [run_choose] at h;split at h <;> cases h),fun _=>Tp.of (by exact fun _=>trivial) w⟩
 rw [run_choose] at h
 by_cases hq:q.forced=true
 ·rw [if_pos hq] at h;cases h
  exact ⟨R,0,w',by rw [run_choose,if_pos hq],hw,.refl _ _,by rw [events_choose];exact yY.nil,rfl,.refl w⟩
 ·rw [if_neg hq] at h;cases h
  simp only at hd
  have e:w'.tape w'.drawn q=w.tape w.drawn q:=by simpa using hw.tape 0 q (by omega)
  refine ⟨R,q.cut (w.tape w.drawn q),{ w' with drawn:=w'.drawn+1 },by rw [run_choose,if_neg hq,e],⟨hw.fn,hw.inj,hw.obj,hw.fz,fun i q' hi=>?_,hw.glob,hw.big,hw.big'⟩,⟨fun _ _ h=>h,fun _ _ h=>.inl h,Nat.le_refl _,Nat.le_refl _,fun _ _ _=>rfl,rfl,rfl,rfl,rfl,fun _ _ _=>rfl⟩,by rw [events_choose];exact yY.nil,rfl,fun h=>h⟩
  have:=hw.tape (i+1) q' (by simp at hi;omega)
  simpa [Nat.add_assoc,Nat.add_comm 1 i] using this
theorem qg.askRoom (n:Nat):qg K P' P R (Go.askRoom n) (Go.askRoom n) (fun _ _ _=>True):=by
 intro w w' hw
 refine ⟨fun x w1 h _=>?_,fun x w1 h _=>(by rw [run_askRoom] at h;cases h),fun _=>Tp.of (by unfold Go.askRoom;split <;> trivial) w⟩
 rw [run_askRoom] at h;cases h
 refine ⟨R,(),w',run_askRoom P w' n,hw,.refl _ _,?_,trivial,.refl w⟩
 unfold Go.askRoom
 split
 ·rw [events_mark];exact yY.one .room
 ·rw [Sem.events_pure];exact yY.nil
structure Same (P' P:Program):Prop where
 tables:P'.toTables=P.toTables
 zero:∀t i v,P.info? t=some i→i.zero=some v→xW v
theorem Same.info (S:Same P' P) (t:TypeId):P'.info? t=P.info? t:=by
 obtain ⟨T',f'⟩:=P';obtain ⟨T,f⟩:=P
 have h:=S.tables;simp only at h;subst h;rfl
theorem Same.und (S:Same P' P) (t:TypeId):P'.underlying t=P.underlying t:=by
 obtain ⟨T',f'⟩:=P';obtain ⟨T,f⟩:=P
 have h:=S.tables;simp only at h;subst h;rfl
theorem qg.same {α:Type} {s:Sem α} (f:Program→Except Halt α) (hs:∀P w,s.run P w=match f P with | .ok a=>.ok a w | .error h=>.halt h w) (he:∀P w,s.events P w #[]=#[]) (hf:f P'=f P) (ht:∀h,f P'=.error h→yZ h=true) (hn:ze s) :
 qg K P' P R s s (fun _ x y=>y=x∧f P=.ok x):=by
 intro w w' hw
 refine ⟨fun x w1 h _=>?_,fun x w1 h _=>?_,fun _=>Tp.of hn w⟩
 rotate_left
 ·rw [hs] at h
  cases e:f P' with
  | error y=>rw [e] at h;cases h;exact .refl w (ht _ e)
  | ok a=>rw [e] at h;cases h
 rw [hs] at h
 cases e:f P' with
 | error y=>rw [e] at h;cases h
 | ok a =>
   rw [e] at h;cases h
   exact ⟨R,x,w',by rw [hs,← hf,e],hw,.refl _ _,by rw [he];exact yY.nil,⟨rfl,hf▸e⟩,.refl w⟩
theorem qg.underlying (S:Same P' P) (t:TypeId):qg K P' P R (Go.underlying t) (Go.underlying t) (fun _ x y=>y=x∧P.underlying t=some x):=by
 refine (qg.same (fun p=>match p.underlying t with | some d=>.ok d | none=>.error (.stuck "no such type")) (fun P w=>?_) (fun P w=>by rw [events_underlying]) (by simp only [S.und]) (fun h e=>by split at e <;> cases e;rfl) (by exact ze.bind (fun P=>trivial) fun P=>by split <;> trivial)).mono fun R1 a b _ h=>⟨h.1,?_⟩
 ·unfold Go.underlying
  simp only [Sem.run_bind,run_program,Result.andThen_ok]
  cases P.underlying t <;> rfl
 ·have:=h.2
  cases e:P.underlying t with
  | none=>rw [e] at this;cases this
  | some d=>rw [e] at this;cases this;rfl
theorem qg.typeInfo (S:Same P' P) (t:TypeId):qg K P' P R (Go.typeInfo t) (Go.typeInfo t) (fun _ x y=>y=x∧P.info? t=some x):=by
 refine (qg.same (fun p=>match p.info? t with | some d=>.ok d | none=>.error (.stuck "no such type")) (fun P w=>?_) (fun P w=>by rw [events_typeInfo]) (by simp only [S.info]) (fun h e=>by split at e <;> cases e;rfl) (by exact ze.bind (fun P=>trivial) fun P=>by split <;> trivial)).mono fun R1 a b _ h=>⟨h.1,?_⟩
 ·unfold Go.typeInfo
  simp only [Sem.run_bind,run_program,Result.andThen_ok]
  cases P.info? t <;> rfl
 ·have:=h.2
  cases e:P.info? t with
  | none=>rw [e] at this;cases this
  | some d=>rw [e] at this;cases this;rfl
theorem qg.sizeOf (S:Same P' P) (t:TypeId):qg K P' P R (Go.sizeOf t) (Go.sizeOf t) (fun _ x y=>y=x):=by
 unfold Go.sizeOf
 exact (qg.typeInfo S t).bind fun R1 a b _ h=>.pure (by rw [h.1])
theorem qg.isAgg (S:Same P' P) (t:TypeId):qg K P' P R (Go.isAgg t) (Go.isAgg t) (fun _ x y=>y=x):=by
 unfold Go.isAgg
 exact (qg.underlying S t).bind fun R1 a b _ h=>by rw [h.1];cases a <;> exact .pure rfl
theorem qg.zeroValue (S:Same P' P) (t:TypeId):qg K P' P R (Go.zeroValue t) (Go.zeroValue t) (fun R1 x y=>y=x∧VR K.C R1 x y):=by
 unfold Go.zeroValue
 refine (qg.typeInfo S t).bind fun R1 a b _ h=>?_
 obtain ⟨rfl,hi⟩:=h
 cases e:b.zero with
 | none=>exact .unsupported
 | some v=>exact .pure ⟨rfl,S.zero t b v hi e _ _⟩
end
section
variable {K:Cfg} {P' P:Program} {R:Nat→Nat→Prop}
theorem qg.loadCellsFrom {a a':Addr} (i n:Nat) {acc acc':Array Value} (ha:qF R a a') (hc:AR K.C R acc acc') :
 qg K P' P R (Go.loadCellsFrom a i n acc) (Go.loadCellsFrom a' i n acc') (fun R1 x y=>AR K.C R1 x y):=by
 induction n generalizing i acc acc' R with
 | zero=>exact .pure hc
 | succ n ih =>
   unfold Go.loadCellsFrom
   exact (qg.load (ha.add i)).bind fun R1 v v' h hv=>ih (i+1) (ha.mono h) ((hc.mono h).push hv)
theorem qg.loadCells {a a':Addr} (n:Nat) (ha:qF R a a'):qg K P' P R (Go.loadCells a n) (Go.loadCells a' n) (fun R1 x y=>AR K.C R1 x y):=by
 unfold Go.loadCells
 exact qg.loadCellsFrom 0 n ha .nil
theorem qg.storeCells {a a':Addr}:∀(l l':List Value) (i:Nat) {R:Nat→Nat→Prop},qF R a a'→l.length=l'.length→(∀(n:Nat) (x x':Value),l[n]? = some x→l'[n]? = some x'→VR K.C R x x') →
 qg K P' P R (Go.storeCells a l i) (Go.storeCells a' l' i) (fun _ _ _=>True)
 | [],[],_,_,_,_,_=>by unfold Go.storeCells;exact .pure trivial
 | [],_ :: _,_,_,_,h,_=>by simp at h
 | _ :: _,[],_,_,_,h,_=>by simp at h
 | v :: l,v' :: l',i,R,ha,h,hv=>by
   unfold Go.storeCells
   refine (qg.store (ha.add i) (hv 0 v v' rfl rfl)).bind fun R1 _ _ hR _=>qg.storeCells l l' (i+1) (ha.mono hR) (by simpa using h) fun n x x' hx hx'=>(hv (n+1) x x' (by simpa using hx) (by simpa using hx')).mono hR
theorem AR.toList {C:FuncId→Prop} {xs xs':Array Value} (h:AR C R xs xs'):xs.toList.length=xs'.toList.length∧∀(n:Nat) (x x':Value),xs.toList[n]? = some x→xs'.toList[n]? = some x'→VR C R x x' :=
 ⟨by simpa using h.size,fun n x x' a b=>h.el n x x' (by simpa using a) (by simpa using b)⟩
theorem qg.loadVar (S:Same P' P) (t:TypeId) {a a':Addr} (ha:qF R a a'):qg K P' P R (Go.loadVar t a) (Go.loadVar t a') (fun R1 x y=>VR K.C R1 x y):=by
 unfold Go.loadVar
 refine (qg.isAgg S t).bind fun R1 b b' h e=>?_
 subst e
 split
 ·refine (qg.sizeOf S t).bind fun R2 n n' h2 e=>?_
  subst e
  exact (qg.loadCells _ ((ha.mono h).mono h2)).bind fun R3 x y _ hx=>.pure hx.agg
 ·exact qg.load (ha.mono h)
theorem qg.storeVar (S:Same P' P) (t:TypeId) {a a':Addr} {v v':Value} (ha:qF R a a') (hv:VR K.C R v v'):qg K P' P R (Go.storeVar t a v) (Go.storeVar t a' v') (fun _ _ _=>True):=by
 unfold Go.storeVar
 refine (qg.sizeOf S t).bind fun R1 n n' h e=>?_
 subst e
 have hc:=(hv.mono h).cells
 rw [hc.size]
 split
 ·exact .stuck
 ·exact qg.storeCells _ _ 0 (ha.mono h) hc.toList.1 hc.toList.2
theorem FzR.none:FzR (0,0) (0,0):=.inl ⟨Nat.le_refl _,Nat.le_refl _,.inl rfl⟩
theorem qg.newRow (t:TypeId) {xs xs':Array Value} (h:AR K.C R xs xs'):qg K P' P R (Go.newRow t xs) (Go.newRow t xs') (fun R1 a a'=>qF R1 a a'):=by
 unfold Go.newRow
 exact (qg.newObj (.cells t h .none)).bind fun R1 r r' _ hr=>.pure (.none hr)
theorem qg.newVar (t:TypeId) {v v':Value} (h:VR K.C R v v'):qg K P' P R (Go.newVar t v) (Go.newVar t v') (fun R1 a a'=>qF R1 a a'):=by
 unfold Go.newVar
 exact qg.newRow t h.cells
theorem qg.part (S:Same P' P) (t:TypeId) {cs cs':Array Value} (off:Nat) (h:AR K.C R cs cs'):qg K P' P R (Go.part t cs off) (Go.part t cs' off) (fun R1 x y=>VR K.C R1 x y):=by
 unfold Go.part
 refine (qg.isAgg S t).bind fun R1 b b' hR e=>?_
 subst e
 split
 ·refine (qg.sizeOf S t).bind fun R2 n n' h2 e=>?_
  subst e
  exact .pure (((h.mono hR).mono h2).extract _ _).agg
 ·cases e:cs[off]? with
  | none=>exact .stuck
  | some v =>
    obtain ⟨v',e',hv⟩:=h.get e
    rw [e']
    exact .pure (hv.mono hR)
theorem qg.asIntOf {v v':Value} (h:VR K.C R v v'):qg K P' P R (Go.asIntOf v) (Go.asIntOf v') (fun _ x y=>y=x):=by
 cases h <;> first
  | exact .pure rfl
  | exact .unsupported
  | exact .stuck
theorem qg.asInt {v v':Value} (h:VR K.C R v v'):qg K P' P R (Go.asInt v) (Go.asInt v') (fun _ x y=>y=x):=by
 unfold Go.asInt
 exact (qg.asIntOf h).bind fun _ _ _ _ e=>.pure (by rw [e])
theorem qg.asBool {v v':Value} (h:VR K.C R v v'):qg K P' P R (Go.asBool v) (Go.asBool v') (fun _ x y=>y=x):=by
 cases h <;> first
  | exact .pure rfl
  | exact .stuck
theorem qg.asAgg {v v':Value} (h:VR K.C R v v'):qg K P' P R (Go.asAgg v) (Go.asAgg v') (fun R1 x y=>AR K.C R1 x y):=by
 cases h <;> first
  | exact .pure ⟨by assumption,by assumption⟩
  | exact .stuck
theorem qg.sureAddr {v v':Value} (h:VR K.C R v v'):qg K P' P R (Instr.sureAddr v) (Instr.sureAddr v') (fun R1 x y=>qF R1 x y):=by
 cases h with
 | ptr a=>exact .pure a
 | _=>exact .stuck
theorem qg.asAddr {v v':Value} (h:VR K.C R v v'):qg K P' P R (Go.asAddr v) (Go.asAddr v') (fun R1 x y=>qF R1 x y):=by
 cases h with
 | ptr a=>exact .pure a
 | pnil=>exact qg.runtimePanic (e:=.nilDeref) (α:=Addr)
 | _=>exact .stuck
theorem qg.forList {γ σ:Type} (l:List γ) {f f':γ→σ→Sem (ForInStep σ)} {R:Nat→Nat→Prop} (s:σ)
 (h:∀(R1:Nat→Nat→Prop),(∀b c,R b c→R1 b c)→∀x∈l,∀s,qg K P' P R1 (f x s) (f' x s) (fun _ a b=>b=a)):qg K P' P R (forIn l s f) (forIn l s f') (fun _ a b=>b=a):=by
 induction l generalizing s R with
 | nil=>simp only [List.forIn_nil];exact .pure rfl
 | cons x l ih =>
   simp only [List.forIn_cons]
   refine (h R (fun _ _ h=>h) x (by simp) s).bind fun R1 a b hR e=>?_
   subst e
   cases b with
   | done b=>exact .pure rfl
   | «yield» b=>exact ih b (fun R2 h2 y hy s=>h R2 (fun _ _ k=>h2 _ _ (hR _ _ k)) y (by simp [hy]) s)
theorem qg.forArray {γ σ:Type} (l:Array γ) {f f':γ→σ→Sem (ForInStep σ)} (s:σ)
 (h:∀(R1:Nat→Nat→Prop),(∀b c,R b c→R1 b c)→∀x∈l,∀s,qg K P' P R1 (f x s) (f' x s) (fun _ a b=>b=a)):qg K P' P R (forIn l s f) (forIn l s f') (fun _ a b=>b=a):=by
 rw [← Array.forIn_toList,← Array.forIn_toList]
 exact qg.forList l.toList s (fun R1 hR x hx s=>h R1 hR x (by simpa using hx) s)
theorem qg.mapMList {γ δ:Type} (l:List γ) {f f':γ→Sem δ} {R:Nat→Nat→Prop} (h:∀(R1:Nat→Nat→Prop),(∀b c,R b c→R1 b c)→∀x∈l,qg K P' P R1 (f x) (f' x) (fun _ a b=>b=a)) :
 qg K P' P R (l.mapM f) (l.mapM f') (fun _ a b=>b=a):=by
 induction l generalizing R with
 | nil=>simp only [List.mapM_nil];exact .pure rfl
 | cons x l ih =>
   simp only [List.mapM_cons]
   refine (h R (fun _ _ h=>h) x (by simp)).bind fun R1 a b hR e=>?_
   subst e
   exact (ih fun R2 h2 y hy=>h R2 (fun _ _ k=>h2 _ _ (hR _ _ k)) y (by simp [hy])).bind fun R2 c d h2 e=>by subst e;exact .pure rfl
theorem qg.mapMArray {γ δ:Type} (l:Array γ) {f f':γ→Sem δ} (h:∀(R1:Nat→Nat→Prop),(∀b c,R b c→R1 b c)→∀x∈l,qg K P' P R1 (f x) (f' x) (fun _ a b=>b=a)) :
 qg K P' P R (l.mapM f) (l.mapM f') (fun _ a b=>b=a):=by
 rw [Array.mapM_eq_mapM_toList,Array.mapM_eq_mapM_toList]
 have:=qg.mapMList (K:=K) (P':=P') (P:=P) l.toList (f:=f) (f':=f') (R:=R) (fun R1 hR x hx=>h R1 hR x (by simpa using hx))
 rw [map_eq_pure_bind,map_eq_pure_bind]
 exact this.bind fun R1 a b _ e=>by subst e;exact .pure rfl
end
end Go.Sim
namespace Go.Sim
open Go Go.Instr
section
variable {K:Cfg} {P' P:Program} {R:Nat→Nat→Prop}
theorem qg.alloc (S:Same P' P) (t:TypeId):qg K P' P R (Instr.alloc t true (.tuple #[])) (Instr.alloc t true (.tuple #[])) (fun R1 x y=>VR K.C R1 x y):=by
 unfold Instr.alloc
 refine (qg.zeroValue S t).bind fun R1 z z' h e=>?_
 exact (qg.newVar t e.2).bind fun R2 a a' _ ha=>.pure (.ptr ha)
theorem qg.box (t:TypeId) {v v':Value} (h:VR K.C R v v'):qg K P' P R (Instr.box t v) (Instr.box t v') (fun R1 x y=>VR K.C R1 x y):=by
 unfold Instr.box
 exact (qg.newVar t h).bind fun R2 a a' _ ha=>.pure (.ptr ha)
inductive PartsR (C:FuncId→Prop) (R:Nat→Nat→Prop):List (Nat×Value)→List (Nat×Value)→Prop
 | nil:PartsR C R [] []
 | cons (i:Nat) {v v':Value} {l l':List (Nat×Value)}:VR C R v v'→PartsR C R l l'→PartsR C R ((i,v) :: l) ((i,v') :: l')
theorem PartsR.mono {C:FuncId→Prop} {R R1:Nat→Nat→Prop} (h:∀b c,R b c→R1 b c) {l l':List (Nat×Value)} (x:PartsR C R l l'):PartsR C R1 l l':=by
 induction x with
 | nil=>exact .nil
 | cons i v _ ih=>exact .cons i (v.mono h) ih
theorem PartsR.map {C:FuncId→Prop} {R:Nat→Nat→Prop} (l:List (Nat×Operand)) {f g:Operand→Value} (h:∀x∈l,VR C R (f x.2) (g x.2)):PartsR C R (l.map fun x=>(x.1,f x.2)) (l.map fun x=>(x.1,g x.2)):=by
 induction l with
 | nil=>exact .nil
 | cons x l ih=>exact .cons x.1 (h x (by simp)) (ih fun y hy=>h y (by simp [hy]))
theorem fold_set {C:FuncId→Prop} {R:Nat→Nat→Prop} (off:Nat) (l l':List Value) (k:Nat) {cs cs':Array Value} (h:l.length=l'.length) (hv:∀(n:Nat) (x x':Value),l[n]? = some x→l'[n]? = some x'→VR C R x x') (hc:AR C R cs cs') :
 AR C R ((l.zipIdx k).foldl (fun cs (x:Value×Nat)=>cs.setIfInBounds (off+x.2) x.1) cs) ((l'.zipIdx k).foldl (fun cs (x:Value×Nat)=>cs.setIfInBounds (off+x.2) x.1) cs'):=by
 induction l generalizing l' k cs cs' with
 | nil=>cases l' with
   | nil=>exact hc
   | cons=>simp at h
 | cons v l ih=>cases l' with
   | nil=>simp at h
   | cons v' l' =>
     simp only [List.zipIdx_cons,List.foldl_cons]
     exact ih l' (k+1) (by simpa using h) (fun n x x' a b=>hv (n+1) x x' (by simpa using a) (by simpa using b)) (hc.set _ (hv 0 v v' rfl rfl))
theorem Xn {C:FuncId→Prop} {R:Nat→Nat→Prop} (place:Nat→Option (Nat×Nat)) {l l':List (Nat×Value)} (hl:PartsR C R l l'):∀{cs cs':Array Value},AR C R cs cs' →
 (fill place cs l=none∧True)∨∃x x',fill place cs l=some x∧fill place cs' l'=some x'∧AR C R x x':=by
 induction hl with
 | nil=>intro cs cs' h;exact .inr ⟨cs,cs',rfl,rfl,h⟩
 | cons i hv _ ih =>
   rename_i v v' l l' _
   intro cs cs' h
   unfold fill
   cases place i with
   | none=>exact .inl ⟨rfl,trivial⟩
   | some p =>
     obtain ⟨off,size⟩:=p
     have hc:=hv.cells
     simp only [hc.size,h.size]
     split
     ·exact .inl ⟨rfl,trivial⟩
     ·have:=fold_set off v.cells.toList v'.cells.toList 0 hc.toList.1 hc.toList.2 h
      rw [← Array.foldl_toList,← Array.foldl_toList,Array.toList_zipIdx,Array.toList_zipIdx]
      exact ih this
theorem qg.build (S:Same P' P) (t:TypeId) {ps ps':Array (Nat×Value)} (h:PartsR K.C R ps.toList ps'.toList):qg K P' P R (Instr.build t ps) (Instr.build t ps') (fun R1 x y=>VR K.C R1 x y):=by
 unfold Instr.build
 refine (qg.zeroValue S t).bind fun R1 z z' hR e=>?_
 have hz:=e.2.cells
 refine (qg.underlying S t).bind fun R2 d d' h2 e=>?_
 obtain ⟨rfl,_⟩:=e
 have hz2:=hz.mono h2
 have hp:=(h.mono hR).mono h2
 cases d' with
 | struct fields =>
   refine (qg.mapMArray fields fun R3 _ f _=>(qg.sizeOf S f.type).bind fun R4 a b _ e=>by subst e;exact .pure rfl).bind fun R5 pl pl' h5 e=>?_
   subst e
   rcases Xn (fun i=>pl'[i]?) (hp.mono h5) (hz2.mono h5) with ⟨e,_⟩ | ⟨x,x',e1,e2,hx⟩
   ·simp only [e];exact .stuck
   ·simp only [e1,e2];exact .pure hx.agg
 | array n el =>
   refine (qg.sizeOf S el).bind fun R3 s s' h3 e=>?_
   subst e
   rcases Xn (fun i=>some (i * s',s')) (hp.mono h3) (hz2.mono h3) with ⟨e,_⟩ | ⟨x,x',e1,e2,hx⟩
   ·simp only [e];exact .stuck
   ·simp only [e1,e2];exact .pure hx.agg
 | _=>exact .stuck
theorem AR.getBang {C:FuncId→Prop} {R:Nat→Nat→Prop} {xs xs':Array Value} (h:AR C R xs xs') (i:Nat) (hd:VR C R default default):VR C R xs[i]! xs'[i]! := by
 rw [Array.getElem!_eq_getD,Array.getElem!_eq_getD]
 exact h.getD i hd
theorem VR.default {C:FuncId→Prop} {R:Nat→Nat→Prop}:VR C R (default:Value) default:=by
 show VR C R (.bool false) (.bool false)
 exact .bool _
theorem AR.rows {C:FuncId→Prop} {R:Nat→Nat→Prop} {z z':Array Value} (h:AR C R z z') (n:Nat):AR C R ((Array.range n).map (fun i=>z[i % z.size]!)) ((Array.range n).map (fun i=>z'[i % z'.size]!)):=by
 rw [h.size]
 exact AR.map _ fun i _=>h.getBang _ VR.default
theorem qg.buildSlice (S:Same P' P) (t:TypeId) (n:Nat) {ps ps':Array (Nat×Value)} (h:PartsR K.C R ps.toList ps'.toList):qg K P' P R (Instr.buildSlice t n ps) (Instr.buildSlice t n ps') (fun R1 x y=>VR K.C R1 x y):=by
 unfold Instr.buildSlice
 refine (qg.underlying S t).bind fun R1 d d' hR e=>?_
 obtain ⟨rfl,_⟩:=e
 cases d' with
 | slice el =>
   refine (qg.sizeOf S el).bind fun R2 s s' h2 e=>?_
   subst e
   have jp:∀(R3:Nat→Nat→Prop) (z z':Array Value),(∀b c,R2 b c→R3 b c)→AR K.C R3 z z'→qg K P' P R3
    (match fill (fun i=>some (i * s',s')) ((Array.range (n * s')).map (z[· % z.size]!)) ps.toList with
      | some cells=>do Pure.pure (Value.slice (some (← Go.newRow el cells)) n n)
      | _=>Go.stuck "buildSlice: a part of the wrong size")
    (match fill (fun i=>some (i * s',s')) ((Array.range (n * s')).map (z'[· % z'.size]!)) ps'.toList with
      | some cells=>do Pure.pure (Value.slice (some (← Go.newRow el cells)) n n)
      | _=>Go.stuck "buildSlice: a part of the wrong size") (fun R1 x y=>VR K.C R1 x y):=by
    intro R3 z z' h3 hz
    rcases Xn (fun i=>some (i * s',s')) (((h.mono hR).mono h2).mono h3) (hz.rows (n * s')) with ⟨e,_⟩ | ⟨x,x',e1,e2,hx⟩
    ·simp only [e];exact .stuck
    ·simp only [e1,e2]
     exact (qg.newRow el hx).bind fun R4 a a' _ ha=>.pure (.slice _ _ ha)
   dsimp only
   split
   ·exact qg.halted
   ·split
    ·exact (qg.pure (Q:=fun R1 x y=>AR K.C R1 x y) AR.nil).bind fun R3 z z' h3 hz=>jp R3 z z' h3 hz
    ·refine (qg.zeroValue S el).bind fun R3 z z' h3 e=>?_
     exact (qg.pure (Q:=fun R1 x y=>AR K.C R1 x y) e.2.cells).bind fun R4 z z' h4 hz=>jp R4 z z' (fun _ _ k=>h4 _ _ (h3 _ _ k)) hz
 | _=>exact .stuck
theorem qg.loadAt (S:Same P' P) (t:TypeId) {v v':Value} (h:VR K.C R v v'):qg K P' P R (Instr.loadAt t v) (Instr.loadAt t v') (fun R1 x y=>VR K.C R1 x y):=by
 unfold Instr.loadAt
 exact (qg.sureAddr h).bind fun R1 a a' _ ha=>qg.loadVar S t ha
theorem qg.storeAt (S:Same P' P) (t:TypeId) {v v' x x':Value} (h:VR K.C R v v') (hx:VR K.C R x x'):qg K P' P R (Instr.storeAt t v x) (Instr.storeAt t v' x') (fun _ _ _=>True):=by
 unfold Instr.storeAt
 exact (qg.sureAddr h).bind fun R1 a a' hR ha=>qg.storeVar S t ha (hx.mono hR)
def qde (P:Program) (s:TypeId) (i:Nat):Bool :=
 match P.underlying s with
 | some (.struct fs)=>match fs[i]? with
   | some f=>match P.info? f.type with
     | some d=>d.size != 0
     | none=>false
   | none=>false
 | _=>false
theorem qg.sizeOf' (S:Same P' P) (t:TypeId):qg K P' P R (Go.sizeOf t) (Go.sizeOf t) (fun _ x y=>y=x∧∃d,P.info? t=some d∧d.size=x):=by
 unfold Go.sizeOf
 exact (qg.typeInfo S t).bind fun R1 a b _ h=>.pure ⟨by rw [h.1],a,h.2,rfl⟩
theorem qg.fieldAt (S:Same P' P) (s:TypeId) (i:Nat) (hf:qde P s i=true) {v v':Value} (h:VR K.C R v v'):qg K P' P R (Instr.fieldAt s v i) (Instr.fieldAt s v' i) (fun R1 x y=>VR K.C R1 x y):=by
 unfold Instr.fieldAt
 refine (qg.underlying S s).bind fun R1 d d' hR e=>?_
 obtain ⟨rfl,hd⟩:=e
 cases d' with
 | struct fs =>
   dsimp only
   cases e:fs[i]? with
   | none=>exact .stuck
   | some f =>
     dsimp only
     refine (qg.sureAddr (h.mono hR)).bind fun R2 a a' h2 ha=>?_
     refine qg.bind (Q:=fun R1 x y=>qF R1 x y) ?_ fun R3 x y _ hx=>.pure (.ptr hx)
     unfold Go.fieldPlace
     refine (qg.sizeOf' S f.type).bind fun R3 n n' h3 e2=>?_
     obtain ⟨rfl,di,e3,e4⟩:=e2
     have hn:n'≠0:=by
      simp only [qde,hd,e,e3] at hf
      rw [e4] at hf
      simpa using hf
     simp only [hn,if_false]
     exact .pure ((ha.mono h3).add _)
 | _=>exact .stuck
theorem qg.indexAt (S:Same P' P) (t:TypeId) {v v' x x':Value} (h:VR K.C R v v') (hx:VR K.C R x x'):qg K P' P R (Instr.indexAt t v x) (Instr.indexAt t v' x') (fun R1 x y=>VR K.C R1 x y):=by
 unfold Instr.indexAt
 refine (qg.asIntOf hx).bind fun R1 ki ki' hR e=>?_
 subst e
 obtain ⟨k,i⟩:=ki'
 dsimp only
 refine (qg.underlying S t).bind fun R2 d d' h2 e=>?_
 obtain ⟨rfl,hd⟩:=e
 have hv:=(h.mono hR).mono h2
 have tail:∀(R3:Nat→Nat→Prop),(∀b c,R2 b c→R3 b c)→∀(base base':Option Addr) (len:Nat) (elem:TypeId),(base=none∧base'=none∨(∃a a',base=some a∧base'=some a'∧qF R3 a a')∨len=0∧∃a,base=some a∧base'=some a) →
  qg K P' P R3 (do
   let tiny:=len≤1 && (match ← Go.underlying t with | .array ..=>true | _=>false)
   match base with
   | some a =>
     if 0≤i∧i < len then Pure.pure (Value.pointer (some (a.add (i.toNat * (← Go.sizeOf elem)))))
     else if tiny then Go.unsupported (.noEntry "op/indexAddr.an index out of range at an array of length 0 or 1 (ledger 616)")
     else Go.boundsPanic k i len .index
   | none=>Go.boundsPanic k i 0 .index) (do
   let tiny:=len≤1 && (match ← Go.underlying t with | .array ..=>true | _=>false)
   match base' with
   | some a =>
     if 0≤i∧i < len then Pure.pure (Value.pointer (some (a.add (i.toNat * (← Go.sizeOf elem)))))
     else if tiny then Go.unsupported (.noEntry "op/indexAddr.an index out of range at an array of length 0 or 1 (ledger 616)")
     else Go.boundsPanic k i len .index
   | none=>Go.boundsPanic k i 0 .index) (fun R1 x y=>VR K.C R1 x y):=by
  intro R3 _ base base' len elem hb
  refine (qg.underlying S t).bind fun R4 d d' h4 e=>?_
  obtain ⟨rfl,_⟩:=e
  rcases hb with ⟨rfl,rfl⟩ | ⟨a,a',rfl,rfl,ha⟩ | ⟨rfl,a,rfl,rfl⟩
  ·exact .boundsPanic
  ·dsimp only
   split
   ·exact (qg.sizeOf S elem).bind fun R5 n n' h5 e=>by subst e;exact .pure (.ptr (((ha.mono h4).mono h5).add _))
   ·split
    all_goals (split;(first | exact qg.unsupported | exact qg.boundsPanic);(first | exact qg.unsupported | exact qg.boundsPanic))
  ·dsimp only
   split
   ·rename_i h;exact absurd h (by omega)
   ·split
    all_goals (split;(first | exact qg.unsupported | exact qg.boundsPanic);(first | exact qg.unsupported | exact qg.boundsPanic))
 cases d' with
 | array len elem =>
   dsimp only
   refine (qg.sureAddr hv).bind fun R3 a a' h3 ha=>?_
   exact tail R3 h3 (some a) (some a') len elem (.inr (.inl ⟨a,a',rfl,rfl,ha⟩))
 | slice elem =>
   cases hv with
   | snil l c=>exact tail R2 (fun _ _ h=>h) none none l elem (.inl ⟨rfl,rfl⟩)
   | slice l c ha=>exact tail R2 (fun _ _ h=>h) _ _ l elem (.inr (.inl ⟨_,_,rfl,rfl,ha⟩))
   | zcap a=>exact tail R2 (fun _ _ h=>h) _ _ 0 elem (.inr (.inr ⟨rfl,a,rfl,rfl⟩))
   | _=>exact qg.halted
 | _=>exact qg.halted
end
section
variable {P' P:Program}
theorem Same.cellsOf (S:Same P' P) (t:TypeId):P'.cellsOf t=P.cellsOf t:=by unfold Program.cellsOf;rw [S.info]
theorem Same.bytesOf (S:Same P' P) (t:TypeId):P'.bytesOf t=P.bytesOf t:=by unfold Program.bytesOf;rw [S.info]
theorem Same.depth (S:Same P' P):P'.depth=P.depth:=by unfold Program.depth;rw [S.tables]
theorem Same.globals (S:Same P' P):P'.globals=P.globals:=by rw [S.tables]
theorem Same.byteOfCell (S:Same P' P):∀(d:Nat) (t:TypeId) (o:Nat),Go.byteOfCell P' d t o=Go.byteOfCell P d t o
 | 0,_,_=>rfl
 | d+1,t,o=>by
   have ih:=Same.byteOfCell S d
   unfold Go.byteOfCell
   rw [S.und]
   cases P.underlying t with
   | none=>rfl
   | some x =>
     cases x <;> try rfl
     ·simp only [S.cellsOf,S.bytesOf,ih]
     ·simp only [S.cellsOf,ih]
theorem Same.underlyingId (S:Same P' P) (t:TypeId):P'.underlyingId t=P.underlyingId t:=by unfold Program.underlyingId;rw [S.info]
theorem Same.alike (S:Same P' P):∀(n:Nat) (t u:TypeId),P'.alikeButTags n t u=P.alikeButTags n t u
 | 0,_,_=>rfl
 | n+1,t,u=>by
   have ih:=Same.alike S n
   unfold Program.alikeButTags
   simp only [S.info,ih]
theorem Same.stoodInHeld (S:Same P' P) (t:TypeId):P'.stoodInHeld t=P.stoodInHeld t:=by
 unfold Program.stoodInHeld Program.stoodInAs
 simp only [S.und,S.depth,S.underlyingId,S.alike,S.tables]
theorem Same.eqGuardType (S:Same P' P):∀(n:Nat) (t:TypeId),P'.eqGuardType n t=P.eqGuardType n t
 | 0,_=>rfl
 | n+1,t=>by
   have ih:=Same.eqGuardType S n
   unfold Program.eqGuardType
   simp only [S.und,ih]
end
section
variable {K:Cfg} {P' P:Program} {R:Nat→Nat→Prop}
theorem qg.program {α β:Type} {f:Program→Sem α} {f':Program→Sem β} {Q:(Nat→Nat→Prop)→α→β→Prop} (h:qg K P' P R (f P') (f' P) Q):qg K P' P R (Go.program >>= f) (Go.program >>= f') Q:=by
 intro w w' hw
 refine ⟨fun a w1 hr hd=>?_,fun x w1 hr hd=>?_,fun hd=>(h w w' hw).2.2 hd⟩
 ·rw [Sem.run_bind,run_program,Result.andThen_ok] at hr
  obtain ⟨R1,b,w1',e,h1,h2,h3,h4,h5⟩:=(h w w' hw).1 a w1 hr hd
  refine ⟨R1,b,w1',by rw [Sem.run_bind,run_program];exact e,h1,h2,?_,h4,h5⟩
  rw [Sem.events_bind,run_program,events_program]
  exact h3
 ·rw [Sem.run_bind,run_program,Result.andThen_ok] at hr
  exact (h w w' hw).2.1 x w1 hr hd
theorem qg.noViewAt {b c:Nat} (hr:R b c):qg K P' P R (Go.viewAt b) (Go.viewAt c) (fun _ x y=>x=none∧y=none):=by
 unfold Go.viewAt
 refine (qg.shape hr).bind fun R1 x y h e=>?_
 subst e
 split
 ·exact .pure ⟨rfl,rfl⟩
 ·refine (qg.getObj (h _ _ hr)).bind fun R2 o o' _ ho=>?_
  obtain ⟨ho,hn⟩:=ho
  cases ho <;> first
   | exact .pure ⟨rfl,rfl⟩
   | exact absurd rfl (hn _ _ _)
theorem qg.numberAt {b c:Nat} (hr:R b c):qg K P' P R (Go.numberAt b) (Go.numberAt c) (fun R1 x y=>(x=none∧y=none)∨∃a a' l,x=some (a,l)∧y=some (a',l)∧qF R1 a a'):=by
 unfold Go.numberAt
 refine (qg.shape hr).bind fun R1 x y h e=>?_
 subst e
 split
 ·exact .pure (.inl ⟨rfl,rfl⟩)
 ·refine (qg.getObj (h _ _ hr)).bind fun R2 o o' _ ho=>?_
  obtain ⟨ho,hn⟩:=ho
  cases ho <;> first
   | exact .pure (.inl ⟨rfl,rfl⟩)
   | exact absurd rfl (hn _ _ _)
   | exact .pure (.inr ⟨_,_,_,rfl,rfl,by assumption⟩)
theorem qg.behindNumber {a a':Addr} (ha:qF R a a'):qg K P' P R (Go.behindNumber a) (Go.behindNumber a') (fun R1 x y=>qF R1 x.1 y.1∧y.2=x.2):=by
 unfold Go.behindNumber
 refine (qg.numberAt ha.1).bind fun R1 x y h e=>?_
 rcases e with ⟨rfl,rfl⟩ | ⟨b,b',l,rfl,rfl,hb⟩
 ·exact .pure ⟨ha.mono h,rfl⟩
 ·exact .pure ⟨hb,rfl⟩
theorem qg.noView {a a':Addr} (ha:qF R a a'):qg K P' P R (Go.noView a) (Go.noView a') (fun _ _ _=>True):=by
 unfold Go.noView
 exact (qg.noViewAt ha.1).bind fun R1 x y _ e=>by obtain ⟨rfl,rfl⟩:=e;exact .pure trivial
theorem qg.byteOf (S:Same P' P) {a a':Addr} (ha:qF R a a'):qg K P' P R (Go.byteOf a) (Go.byteOf a') (fun _ x y=>y=x):=by
 unfold Go.byteOf
 rw [ha.2.2,ha.2.1]
 cases e:a.spot with
 | some s=>exact .pure rfl
 | none =>
   dsimp only
   refine qg.program ?_
   refine (qg.noView ha).bind fun R1 _ _ h _=>?_
   refine (qg.shape (h _ _ ha.1)).bind fun R2 x y h2 e=>?_
   subst e
   cases y with
   | none=>exact .stuck
   | some y =>
     obtain ⟨t,n⟩:=y
     dsimp only
     rw [S.cellsOf,S.byteOfCell,S.bytesOf,S.depth]
     split
     ·exact .pure rfl
     ·cases Go.byteOfCell P P.depth t (a.off % P.cellsOf t) with
      | none=>exact .stuck
      | some b=>exact .pure rfl
def eqT (P:Program):Nat→TypeId→Bool
 | 0,_=>false
 | n+1,t =>
   (match P.info? t with | some i=>(match i.desc with | .named "sync.copyChecker" _=>false | _=>true) | none=>false) &&
   match P.underlying t with
   | some .bool | some (.int _) | some .string=>true
   | some (.struct fs)=>fs.all fun f=>eqT P n f.type
   | some (.array _ e)=>eqT P n e
   | _=>false
theorem qF.beq {a a' b b':Addr} (fn:∀x y z,R x y→R x z→y=z) (inj:∀x y z,R x z→R y z→x=y) (ha:qF R a a') (hb:qF R b b'):(a' == b')=(a == b):=by
 have:(a'=b')↔(a=b):=by
  constructor
  ·rintro rfl
   obtain ⟨x1,x2,x3⟩:=ha
   obtain ⟨y1,y2,y3⟩:=hb
   cases a;cases b;simp only at *
   have:=inj _ _ _ x1 y1
   subst this;rw [← x2,← y2,← x3,← y3]
  ·rintro rfl
   obtain ⟨x1,x2,x3⟩:=ha
   obtain ⟨y1,y2,y3⟩:=hb
   cases a';cases b';simp only at *
   have:=fn _ _ _ x1 y1
   subst this;rw [x2,y2,x3,y3]
 by_cases h:a=b
 ·simp [h,this.2 h]
 ·have h':a'≠b':=fun x=>h (this.1 x)
  rw [beq_eq_false_iff_ne.2 h,beq_eq_false_iff_ne.2 h']
theorem qg.at {α β:Type} {s:Sem α} {s':Sem β} {Q:(Nat→Nat→Prop)→α→β→Prop} (h:∀w w',WR K R w w'→qg K P' P R s s' Q):qg K P' P R s s' Q :=
 fun w w' hw=>h w w' hw w w' hw
theorem WR.beqBlock {w w':World} (hw:WR K R w w') {a a' b b':Addr} (ha:qF R a a') (hb:qF R b b'):(a'.block == b'.block)=(a.block == b.block):=by
 by_cases e:a.block=b.block
 ·have:a'.block=b'.block:=hw.fn _ _ _ ha.1 (e▸hb.1)
  rw [beq_iff_eq.2 e,beq_iff_eq.2 this]
 ·have:a'.block≠b'.block:=fun x=>e (hw.inj _ _ _ ha.1 (x▸hb.1))
  rw [beq_eq_false_iff_ne.2 e,beq_eq_false_iff_ne.2 this]
theorem qg.equalIn (S:Same P' P) (hg:K.ng=P.globals.size):∀(d n:Nat) (t:TypeId) {R:Nat→Nat→Prop} {x x' y y':Value},eqT P n t=true→VR K.C R x x'→VR K.C R y y' →
 qg K P' P R (Op.equalIn d t x y) (Op.equalIn d t x' y') (fun _ a b=>b=a)
 | 0,_,_,_,_,_,_,_,_,_,_=>by unfold Op.equalIn;exact .unsupported
 | _+1,0,_,_,_,_,_,_,h,_,_=>by simp [eqT] at h
 | d+1,n+1,t,R,x,x',y,y',ht,hx,hy=>by
   have ih:=qg.equalIn S hg d n
   unfold Op.equalIn
   refine (qg.underlying S t).bind fun R1 de de' h e=>?_
   obtain ⟨rfl,hde⟩:=e
   replace hx:=hx.mono h
   replace hy:=hy.mono h
   simp only [eqT,hde,Bool.and_eq_true] at ht
   obtain ⟨hnm,ht⟩:=ht
   cases de' with
   | bool=>cases hx <;> cases hy <;> first | exact .pure rfl | exact .stuck
   | string=>cases hx <;> cases hy <;> first | exact .pure rfl | exact .stuck
   | int k =>
     cases hx with
     | int k1 n1=>cases hy with
       | int k2 n2 =>
         dsimp only
         split
         ·exact .pure rfl
         ·exact .stuck
       | ptr hb=>rcases n1 with (_ | m) | m <;> first | exact .pure rfl | exact .unsupported
       | pnil=>exact .unsupported
       | _=>exact .stuck
     | pnil=>cases hy <;> exact .unsupported
     | ptr ha=>cases hy with
       | int k2 n2=>rcases n2 with (_ | m) | m <;> first | exact .pure rfl | exact .unsupported
       | ptr hb =>
         rename_i a a' b b'
         dsimp only
         refine (qg.behindNumber ha).bind fun R2 u u' h2 e=>?_
         refine (qg.behindNumber (hb.mono h2)).bind fun R3 v v' h3 e3=>?_
         obtain ⟨a,ua⟩:=u
         obtain ⟨a',ua'⟩:=u'
         obtain ⟨b,ub⟩:=v
         obtain ⟨b',ub'⟩:=v'
         dsimp only
         have ha3:qF R3 a a':=e.1.mono h3
         have hb3:qF R3 b b':=e3.1
         refine qg.program ?_
         refine qg.at fun w w' hw=>?_
         have e1:=hw.beqBlock ha3 hb3
         have e2:decide (a'.block < P.globals.size)=decide (a.block < P.globals.size):=by
          have:=hw.glob _ _ ha3.1
          rw [hg] at this
          simp only [this]
         rw [e1,S.globals,e2]
         split
         ·refine (qg.byteOf S ha3).bind fun R4 x y h4 e=>?_
          subst e
          refine (qg.byteOf S (hb3.mono h4)).bind fun R5 x y h5 e=>?_
          subst e
          exact .pure rfl
         ·refine (qg.typeInfo S t).bind fun R4 x y h4 e=>?_
          obtain ⟨rfl,hi⟩:=e
          rw [hi] at hnm
          simp only at hnm
          split
          ·rename_i e3
           rw [e3] at hnm
           simp at hnm
          ·exact .unsupported
       | _=>exact .unsupported
     | _=>cases hy <;> first | exact .stuck | exact .unsupported
   | struct fields =>
     cases hx <;> cases hy <;> first
      | exact .stuck
      | skip
     rename_i xs xs' sx ex ys ys' sy ey
     have ax:AR K.C R1 xs xs':=⟨sx,ex⟩
     have ay:AR K.C R1 ys ys':=⟨sy,ey⟩
     dsimp only
     refine qg.program ?_
     rw [S.stoodInHeld]
     split
     ·exact qg.halted
     ·refine (qg.forArray fields (none,()) fun R2 h2 f hf s=>?_).bind fun R3 u v h3 e=>?_
      ·split
       ·have hft:eqT P n f.type=true:=by
         rw [Array.all_eq_true'] at ht
         exact ht f hf
        refine (qg.part S f.type f.offset (ax.mono h2)).bind fun R3 u u' h3 hu=>?_
        refine (qg.part S f.type f.offset ((ay.mono h2).mono h3)).bind fun R4 v v' h4 hv=>?_
        refine (ih f.type hft (hu.mono h4) hv).bind fun R5 r r' h5 e=>?_
        subst e
        split <;> exact .pure rfl
       ·exact .pure rfl
      ·subst e
       split <;> exact .pure rfl
   | array len el =>
     cases hx <;> cases hy <;> first
      | exact .stuck
      | skip
     rename_i xs xs' sx ex ys ys' sy ey
     have ax:AR K.C R1 xs xs':=⟨sx,ex⟩
     have ay:AR K.C R1 ys ys':=⟨sy,ey⟩
     dsimp only
     refine (qg.sizeOf S el).bind fun R2 s s' h2 e=>?_
     subst e
     rw [Std.Legacy.Range.forIn_eq_forIn_range',Std.Legacy.Range.forIn_eq_forIn_range']
     refine (qg.forList _ (none,()) fun R3 h3 i _ s=>?_).bind fun R3 u v h3 e=>?_
     ·refine (qg.part S el (i * s') ((ax.mono h2).mono h3)).bind fun R3 u u' h3 hu=>?_
      refine (qg.part S el (i * s') (((ay.mono h2).mono ‹_›).mono h3)).bind fun R4 v v' h4 hv=>?_
      refine (ih el ht (hu.mono h4) hv).bind fun R5 r r' h5 e=>?_
      subst e
      split <;> exact .pure rfl
     ·subst e
      split <;> exact .pure rfl
   | _=>simp at ht
end
section
variable {K:Cfg} {P' P:Program} {R:Nat→Nat→Prop}
theorem qg.equal (S:Same P' P) (hg:K.ng=P.globals.size) {n:Nat} {t:TypeId} {x x' y y':Value} (ht:eqT P n t=true) (hx:VR K.C R x x') (hy:VR K.C R y y') :
 qg K P' P R (Op.equal t x y) (Op.equal t x' y') (fun _ a b=>b=a):=qg.equalIn S hg _ n t ht hx hy
theorem qg.checkKey (S:Same P' P) (empty:Bool):∀(d n:Nat) (t:TypeId) {R:Nat→Nat→Prop} {x x':Value},eqT P n t=true→VR K.C R x x' →
 qg K P' P R (Instr.checkKey empty d t x) (Instr.checkKey empty d t x') (fun _ _ _=>True)
 | 0,_,_,_,_,_,_,_=>by unfold Instr.checkKey;exact .unsupported
 | _+1,0,_,_,_,_,h,_=>by simp [eqT] at h
 | d+1,n+1,t,R,x,x',ht,hx=>by
   have ih:=qg.checkKey S empty d n
   unfold Instr.checkKey
   refine (qg.underlying S t).bind fun R1 de de' h e=>?_
   obtain ⟨rfl,hde⟩:=e
   replace hx:=hx.mono h
   simp only [eqT,hde,Bool.and_eq_true] at ht
   obtain ⟨_,ht⟩:=ht
   cases de' with
   | struct fields =>
     cases hx <;> first
      | exact .stuck
      | skip
     rename_i xs xs' sx ex
     have ax:AR K.C R1 xs xs':=⟨sx,ex⟩
     dsimp only
     refine (qg.forArray fields () fun R2 h2 f hf s=>?_).bind fun R3 u v h3 e=>.pure trivial
     split
     ·have hft:eqT P n f.type=true:=by
       rw [Array.all_eq_true'] at ht
       exact ht f hf
      refine (qg.part S f.type f.offset (ax.mono h2)).bind fun R3 u u' h3 hu=>?_
      exact (ih f.type hft hu).bind fun R5 r r' h5 e=>.pure rfl
     ·exact .pure rfl
   | array len el =>
     cases hx <;> first
      | exact .stuck
      | skip
     rename_i xs xs' sx ex
     have ax:AR K.C R1 xs xs':=⟨sx,ex⟩
     dsimp only
     rw [Std.Legacy.Range.forIn_eq_forIn_range',Std.Legacy.Range.forIn_eq_forIn_range']
     refine (qg.forList _ () fun R3 h3 i _ s=>?_).bind fun R3 u v h3 e=>.pure trivial
     refine (qg.sizeOf S el).bind fun R2 s s' h2 e=>?_
     subst e
     refine (qg.part S el (i * s') ((ax.mono h3).mono h2)).bind fun R3 u u' h3 hu=>?_
     exact (ih el ht hu).bind fun R5 r r' h5 e=>.pure rfl
   | bool=>exact .pure trivial
   | int _=>exact .pure trivial
   | string=>exact .pure trivial
   | _=>simp at ht
inductive EntsR (C:FuncId→Prop) (R:Nat→Nat→Prop):List MapEntry→List MapEntry→Prop
 | nil:EntsR C R [] []
 | cons {e e':MapEntry} {l l':List MapEntry}:EntR C R e e'→EntsR C R l l'→EntsR C R (e :: l) (e' :: l')
theorem EntsR.mono {C:FuncId→Prop} {R R1:Nat→Nat→Prop} (h:∀b c,R b c→R1 b c) {l l':List MapEntry} (x:EntsR C R l l'):EntsR C R1 l l':=by
 induction x with
 | nil=>exact .nil
 | cons a _ ih=>exact .cons (a.mono h) ih
theorem EntsR.of {C:FuncId→Prop} {R:Nat→Nat→Prop}:∀{l l':List MapEntry},l.length=l'.length→(∀(i:Nat) (e e':MapEntry),l[i]? = some e→l'[i]? = some e'→EntR C R e e')→EntsR C R l l'
 | [],[],_,_=>.nil
 | [],_ :: _,h,_=>by simp at h
 | _ :: _,[],h,_=>by simp at h
 | a :: l,b :: l',h,he=>.cons (he 0 a b rfl rfl) (EntsR.of (by simpa using h) fun i e e' x y=>he (i+1) e e' (by simpa using x) (by simpa using y))
def qcC (C:FuncId→Prop) (R:Nat→Nat→Prop) (x y:Option (Nat×Value)):Prop:=(x=none∧y=none)∨∃i v v',x=some (i,v)∧y=some (i,v')∧VR C R v v'
theorem qau {C:FuncId→Prop} (d:TypeDesc) {x x' y y':Value} (hx:VR C R x x') (hy:VR C R y y'):sameNow d x' y'=sameNow d x y:=by
 have hl:∀{a b:Value},xy a=true→sameNow d a b=none:=fun {a b} h=>by
  cases a <;> first | (simp [xy] at h;done) | (cases d <;> rfl)
 have hr:∀{a b:Value},xy b=true→sameNow d a b=none:=fun {a b} h=>by
  cases b <;> first | (simp [xy] at h;done) | (cases d <;> cases a <;> rfl)
 have tl:∀b:Value,sameNow d (.tuple #[]) b=none:=fun b=>by cases d <;> rfl
 have tr:∀b:Value,sameNow d b (.tuple #[])=none:=fun b=>by cases d <;> cases b <;> rfl
 cases hx with
 | junk h=>rw [hl h,tl]
 | _=>cases hy with
   | junk h=>rw [hr h,tr]
   | _=>cases d <;> rfl
theorem JW {C:FuncId→Prop} (d:TypeDesc) {k k':Value} (hk:VR C R k k') {l l':List MapEntry} (h:EntsR C R l l'):∀(i:Nat),(findNow d k l i=none∧findNow d k' l' i=none)∨∃x y,findNow d k l i=some x∧findNow d k' l' i=some y∧qcC C R x y:=by
 induction h with
 | nil=>intro i;exact .inr ⟨none,none,rfl,rfl,.inl ⟨rfl,rfl⟩⟩
 | cons he _ ih =>
   intro i
   unfold findNow
   rw [qau d hk he.key]
   split
   ·exact .inr ⟨_,_,rfl,rfl,.inr ⟨i,_,_,rfl,rfl,he.val⟩⟩
   ·exact ih (i+1)
   ·exact .inl ⟨rfl,rfl⟩
theorem qg.findAsking (S:Same P' P) (hg:K.ng=P.globals.size) {n:Nat} {t:TypeId} (ht:eqT P n t=true) {l l':List MapEntry}:∀{R:Nat→Nat→Prop} {k k':Value} (i:Nat),VR K.C R k k'→EntsR K.C R l l' →
 qg K P' P R (Instr.findAsking t k l i) (Instr.findAsking t k' l' i) (fun R1 x y=>qcC K.C R1 x y):=by
 induction l generalizing l' with
 | nil=>intro R k k' i hk h;cases h;unfold Instr.findAsking;exact .pure (.inl ⟨rfl,rfl⟩)
 | cons e l ih =>
   intro R k k' i hk h
   cases h with | cons he hl =>
   unfold Instr.findAsking
   refine (qg.equal S hg ht hk he.key).bind fun R1 b b' h1 e=>?_
   subst e
   split
   ·exact .pure (.inr ⟨i,_,_,rfl,rfl,he.val.mono h1⟩)
   ·exact ih (i+1) (hk.mono h1) (hl.mono h1)
theorem qg.findKey (S:Same P' P) (hg:K.ng=P.globals.size) {n:Nat} {t:TypeId} (ht:eqT P n t=true) {l l':List MapEntry} {k k':Value} (hk:VR K.C R k k') (h:EntsR K.C R l l') :
 qg K P' P R (Instr.findKey t k l) (Instr.findKey t k' l') (fun R1 x y=>qcC K.C R1 x y):=by
 unfold Instr.findKey
 refine (qg.underlying S t).bind fun R1 d d' h1 e=>?_
 obtain ⟨rfl,_⟩:=e
 rcases JW d' (hk.mono h1) (h.mono h1) 0 with ⟨e1,e2⟩ | ⟨x,y,e1,e2,hxy⟩
 ·rw [e1,e2];exact qg.findAsking S hg ht 0 (hk.mono h1) (h.mono h1)
 ·rw [e1,e2];exact .pure hxy
theorem qg.lookup (S:Same P' P) (hg:K.ng=P.globals.size) {n:Nat} {t kt:TypeId} (ht:∀k e,P.underlying t=some (.map k e)→k=kt) (hk:eqT P n kt=true) {x x' i i':Value} (hx:VR K.C R x x') (hi:VR K.C R i i') (ok:Bool) :
 qg K P' P R (Instr.lookup t x i ok) (Instr.lookup t x' i' ok) (fun R1 x y=>VR K.C R1 x y):=by
 unfold Instr.lookup
 refine (qg.underlying S t).bind fun R1 d d' h1 e=>?_
 obtain ⟨rfl,hd⟩:=e
 cases d' with
 | map key elem =>
   obtain rfl:=ht _ _ hd
   dsimp only
   replace hx:=hx.mono h1
   replace hi:=hi.mono h1
   have tail:∀(R2:Nat→Nat→Prop) (es es':Array MapEntry),(∀b c,R1 b c→R2 b c)→es.size=es'.size→EntsR K.C R2 es.toList es'.toList→qg K P' P R2
    (do
      Instr.checkKey es.isEmpty 10000 key i
      let (v,ok1) ← match ← Instr.findKey key i es.toList with
       | some (_,v)=>Pure.pure (v,true)
       | none=>Pure.pure (← Go.zeroValue elem,false)
      Pure.pure (if ok then Value.tuple #[v,.bool ok1] else v))
    (do
      Instr.checkKey es'.isEmpty 10000 key i'
      let (v,ok1) ← match ← Instr.findKey key i' es'.toList with
       | some (_,v)=>Pure.pure (v,true)
       | none=>Pure.pure (← Go.zeroValue elem,false)
      Pure.pure (if ok then Value.tuple #[v,.bool ok1] else v)) (fun R1 x y=>VR K.C R1 x y):=by
    intro R2 es es' h2 hs he
    have e:es'.isEmpty=es.isEmpty:=by simp [Array.isEmpty,hs]
    rw [e]
    have fin:∀{R:Nat→Nat→Prop} {v v':Value} (b:Bool),VR K.C R v v'→VR K.C R (if ok then Value.tuple #[v,.bool b] else v) (if ok then Value.tuple #[v',.bool b] else v'):=fun b hv=>by
     split
     ·exact ((AR.one hv).push (.bool b)).tuple
     ·exact hv
    refine (qg.checkKey S es.isEmpty 10000 n key hk (hi.mono h2)).bind fun R3 _ _ h3 _=>?_
    refine (qg.findKey S hg hk ((hi.mono h2).mono h3) (he.mono h3)).bind fun R4 u v h4 hf=>?_
    rcases hf with ⟨rfl,rfl⟩ | ⟨j,v,v',rfl,rfl,hv⟩
    ·dsimp only
     exact (qg.zeroValue S elem).bind fun R5 z z' _ e=>.pure (fin false e.2)
    ·exact .pure (fin true hv)
   cases hx with
   | mnil=>exact tail R1 #[] #[] (fun _ _ h=>h) rfl .nil
   | map hr =>
     dsimp only
     refine (qg.getObj hr).bind fun R2 o o' h2 ho=>?_
     obtain ⟨ho,_⟩:=ho
     cases ho with
     | map k s e=>exact tail R2 _ _ h2 s (EntsR.of (by simpa using s) fun i a b x y=>e i a b (by simpa using x) (by simpa using y))
     | _=>exact qg.halted
   | _=>exact qg.halted
 | _=>exact .stuck
theorem XF {C:FuncId→Prop} (fn:∀x y z,R x y→R x z→y=z) (inj:∀x y z,R x z→R y z→x=y):∀(n:Nat) {x x' y y':Value},VR C R x x'→VR C R y y'→sameBits n x y=true→sameBits n x' y'=true:=by
 intro n
 induction n with
 | zero =>
   intro x x' y y' hx hy h
   cases hx with
   | junk _=>simp [sameBits] at h
   | ptr h1=>cases hy with
     | ptr h2=>simp only [sameBits] at h ⊢;simpa [qF.beq fn inj h1 h2] using h
     | pnil=>simp [sameBits] at h
     | _=>simp [sameBits] at h
   | pnil=>cases hy with
     | pnil=>exact h
     | _=>simp [sameBits] at h
   | _=>cases hy <;> first | exact h | (simp [sameBits] at h;done)
 | succ n ih =>
   intro x x' y y' hx hy h
   cases hx with
   | junk _=>simp [sameBits] at h
   | ptr h1=>cases hy with
     | ptr h2=>simp only [sameBits] at h ⊢;simpa [qF.beq fn inj h1 h2] using h
     | pnil=>simp [sameBits] at h
     | _=>simp [sameBits] at h
   | pnil=>cases hy with
     | pnil=>exact h
     | _=>simp [sameBits] at h
   | iface t1 h1=>cases hy with
     | iface t2 h2 =>
       simp only [sameBits,Bool.and_eq_true] at h ⊢
       exact ⟨h.1,ih h1 h2 h.2⟩
     | _=>simp [sameBits] at h
   | @agg xs xs' s1 e1=>cases hy with
     | @agg ys ys' s2 e2 =>
       simp only [sameBits,Bool.and_eq_true] at h ⊢
       rw [← s1,← s2]
       refine ⟨h.1,?_⟩
       have hsz:xs.size=ys.size:=by simpa using h.1
       have hall:=h.2
       rw [List.all_eq_true] at hall ⊢
       intro p hp
       obtain ⟨k,hk,rfl⟩:=List.mem_iff_getElem.1 hp
       simp only [List.length_zip,Array.length_toList] at hk
       have:=hall ((xs.toList.zip ys.toList)[k]'(by simp;omega)) (List.getElem_mem _)
       simp only [List.getElem_zip,Array.getElem_toList] at this ⊢
       exact ih (e1 k _ _ (Array.getElem?_eq_getElem (by omega)) (Array.getElem?_eq_getElem (by omega))) (e2 k _ _ (Array.getElem?_eq_getElem (by omega)) (Array.getElem?_eq_getElem (by omega))) this
     | _=>simp [sameBits] at h
   | _=>cases hy <;> first | exact h | (simp [sameBits] at h;done)
theorem qaL {a b:ByteArray} (h:(a == b)=true):a=b:=by
 cases a;cases b
 have:(_ == _)=true:=h
 simp only [BEq.beq,ByteArray.mk.injEq] at this ⊢
 exact eq_of_beq this
theorem qat:∀(n:Nat) {x y:Value},sameBits n x y=true→x=y:=by
 intro n
 induction n with
 | zero =>
   intro x y h
   cases x <;> cases y <;> first
    | (simp_all [sameBits];done)
    | (simp only [sameBits] at h;rw [qaL h])
 | succ n ih =>
   intro x y h
   cases x <;> cases y <;> first
    | (simp_all [sameBits];done)
    | (simp only [sameBits] at h;rw [qaL h];done)
    | (simp only [sameBits,Bool.and_eq_true,beq_iff_eq] at h;rw [h.1,ih h.2];done)
    | skip
   rename_i a b
   simp only [sameBits,Bool.and_eq_true,beq_iff_eq] at h
   refine congrArg Value.agg (Array.ext h.1 fun i h1 h2=>?_)
   have hall:=h.2
   rw [List.all_eq_true] at hall
   have:=hall ((a.toList.zip b.toList)[i]'(by simp;omega)) (List.getElem_mem _)
   simp only [List.getElem_zip,Array.getElem_toList] at this
   exact ih this
theorem xV.keySet {r r':Nat} {o o':Value→Obj} {x x' y y':Value} (hr:R r r') (hx:VR K.C R x x') (hy:VR K.C R y y') (ho:∀R1 k k',(∀b c,R b c→R1 b c)→VR K.C R1 k k'→OR K.C K.D R1 (o k) (o' k')) (hn:∀k a e f,o k≠.cells a e f) :
 xV K P' P R (Instr.keyThatStays x y >>= fun k=>Go.setObj r (o k)) (Instr.keyThatStays x' y' >>= fun k=>Go.setObj r' (o' k)) (fun _ _ _=>True):=by
 intro w w' hw
 by_cases hs:sameBits 10000 x y=sameBits 10000 x' y'
 ·refine qg.l ?_ w w' hw
  unfold Instr.keyThatStays
  rw [hs]
  split
  ·refine qg.bind (Q:=fun R1 a b=>VR K.C R1 a b) (.pure hy) fun R1 a b h1 hab=>?_
   exact qg.setObj (h1 _ _ hr) (ho R1 a b h1 hab) (hn _)
  ·refine qg.bind (Q:=fun R1 a b=>VR K.C R1 a b) ?_ fun R1 a b h1 hab=>qg.setObj (h1 _ _ hr) (ho R1 a b h1 hab) (hn _)
   refine (qg.choose _).bind fun R1 a b h e=>?_
   subst e
   refine .pure ?_
   split
   ·exact hy.mono h
   ·exact hx.mono h
 ·have hf:sameBits 10000 x y=false:=by
   cases e:sameBits 10000 x y with
   | false=>rfl
   | true=>exact absurd (e.trans (XF hw.fn hw.inj 10000 hx hy e).symm) hs
  have ht:sameBits 10000 x' y'=true:=by
   cases e:sameBits 10000 x' y' with
   | true=>rfl
   | false=>exact absurd (hf.trans e.symm) hs
  have exy:=qat _ ht
  have run1:∃k w2,(Instr.keyThatStays x y).run P' w=.ok k w2∧VR K.C R k y'∧(w2=w∨w2={ w with drawn:=w.drawn+1 }):=by
   unfold Instr.keyThatStays
   rw [hf]
   simp only [Bool.false_eq_true,if_false,Sem.run_bind,run_choose]
   split
   ·simp only [Result.andThen_ok,Sem.run_pure]
    refine ⟨_,_,rfl,?_,.inl rfl⟩
    split
    ·exact hy
    ·exact exy▸hx
   ·simp only [Result.andThen_ok,Sem.run_pure]
    refine ⟨_,_,rfl,?_,.inr rfl⟩
    split
    ·exact hy
    ·exact exy▸hx
  have run2:(Instr.keyThatStays x' y').run P w'=.ok y' w':=by
   unfold Instr.keyThatStays
   rw [ht];rfl
  have ev2:(Instr.keyThatStays x' y').events P w' #[]=#[]:=by
   unfold Instr.keyThatStays
   rw [ht];rfl
  obtain ⟨k,w2,e1,hk,hw2⟩:=run1
  have hrun:(Instr.keyThatStays x y >>= fun k=>Go.setObj r (o k)).run P' w=(Go.setObj r (o k)).run P' w2:=by rw [Sem.run_bind,e1];rfl
  have hl:∀n,w2.drawn=n→WR (K.at' n) R w2 w':=fun n hn=>by
   have:∀i q,w2.drawn+i < n→w'.tape (w'.drawn+i) q=w2.tape (w2.drawn+i) q:=fun i q h=>by omega
   rcases hw2 with rfl | rfl <;> exact ⟨hw.fn,hw.inj,hw.obj,hw.fz,this,hw.glob,hw.big,hw.big'⟩
  have dr:∀{a:Unit} {w3:World},(Go.setObj r (o k)).run P' w2=.ok a w3→w3.drawn=w2.drawn:=fun {a w3} h=>by
   unfold Go.setObj at h
   simp only [Sem.run] at h
   split at h <;> (cases h;first | rfl | skip)
  have kd:jO w w2:=by rcases hw2 with rfl | rfl <;> exact fun h=>h
  refine ⟨fun a w3 h hd=>?_,fun z w3 h hd=>?_,fun hd=>Tp.of ?_ w⟩
  ·rw [hrun] at h
   have hlim:K.at' w2.drawn=K:=by
    have:=(dr h).symm.trans hd
    rw [this];rfl
   have hw3:=hl w2.drawn rfl
   rw [hlim] at hw3
   obtain ⟨R1,b,w3',a1,a2,a3,a4,a5,a6⟩:=(qg.setObj (K:=K) (P':=P') (P:=P) hr (ho R k y' (fun _ _ h=>h) hk) (hn k) w2 w' hw3).1 a w3 h (Nat.le_of_eq hd)
   refine ⟨R1,b,w3',?_,a2,?_,?_,trivial,kd.trans a6⟩
   ·rw [Sem.run_bind,run2];exact a1
   ·refine Ext.trans ?_ a3
    rcases hw2 with rfl | rfl
    ·exact .refl _ _
    ·exact ⟨fun _ _ h=>h,fun _ _ h=>.inl h,Nat.le_refl _,Nat.le_refl _,fun _ _ _=>rfl,rfl,rfl,rfl,rfl,fun _ _ _=>rfl⟩
   ·rw [Sem.events_bind,run2,ev2];exact a4
  ·rw [hrun] at h
   refine ⟨kd.trans fun hn=>?_,?_⟩ <;>
    (unfold Go.setObj at h
     simp only [Sem.run] at h
     split at h <;> first
      | (cases h;done)
      | (cases h;first | exact hn | rfl))
  ·refine ze.bind ?_ fun k=>(by exact trivial)
   unfold Instr.keyThatStays
   split
   ·exact trivial
   ·exact ze.bind (fun _=>trivial) fun _=>trivial
theorem qg.mapUpdate (S:Same P' P) (hg:K.ng=P.globals.size) {n:Nat} {t kt:TypeId} (ht:∀k e,P.underlying t=some (.map k e)→k=kt) (hk:eqT P n kt=true) {x x' i i' v v':Value} (hx:VR K.C R x x') (hi:VR K.C R i i') (hv:VR K.C R v v') :
 xV K P' P R (Instr.mapUpdate t x i v) (Instr.mapUpdate t x' i' v') (fun _ _ _=>True):=by
 unfold Instr.mapUpdate
 refine (qg.underlying S t).bindL fun R1 d d' h1 e=>?_
 obtain ⟨rfl,hd⟩:=e
 cases d' with
 | map key elem =>
   obtain rfl:=ht _ _ hd
   dsimp only
   replace hx:=hx.mono h1
   replace hi:=hi.mono h1
   replace hv:=hv.mono h1
   cases hx with
   | mnil=>exact qg.runtimePanic.l
   | map hr =>
     dsimp only
     refine (qg.getObj hr).bindL fun R2 o o' h2 ho=>?_
     obtain ⟨ho,_⟩:=ho
     cases ho with
     | @map es es' k s e =>
       dsimp only
       refine (qg.checkKey S false 10000 n key hk (hi.mono h2)).bindL fun R3 _ _ h3 _=>?_
       have he:∀(i:Nat) (a b:MapEntry),es[i]? = some a→es'[i]? = some b→EntR K.C R3 a b:=fun i a b x y=>(e i a b x y).mono h3
       refine (qg.findKey S hg hk ((hi.mono h2).mono h3) (EntsR.of (by simpa using s) fun i a b x y=>he i a b (by simpa using x) (by simpa using y))).bindL fun R4 u u' h4 hf=>?_
       have hr4:=h4 _ _ (h3 _ _ (h2 _ _ hr))
       have hi4:=((hi.mono h2).mono h3).mono h4
       have hv4:=((hv.mono h2).mono h3).mono h4
       rcases hf with ⟨rfl,rfl⟩ | ⟨j,y,y',rfl,rfl,hy⟩
       ·dsimp only
        refine (qg.setObj hr4 (.map (k+1) (by simp [s]) fun i a b x y=>?_) (by simp)).l
        rw [Array.getElem?_push] at x y
        rw [s] at x
        split at x
        ·rw [if_pos ‹_›] at y;cases x;cases y
         exact ⟨hi4,hv4,rfl⟩
        ·rw [if_neg ‹_›] at y
         exact (he i a b x y).mono h4
       ·dsimp only
        refine xV.keySet (o:=fun key=>.map (es.modify j fun e=>{ e with key,val:=v }) k) (o':=fun key=>.map (es'.modify j fun e=>{ e with key,val:=v' }) k) hr4 ?_ hi4 (fun R5 a b h5 hab=>?_) (by simp)
        ·skip
         cases e1:es[j]? with
         | none =>
           have:es'[j]? = none:=by
            rw [Array.getElem?_eq_none_iff] at *
            omega
           simp only [this,Option.map_none,Option.getD_none]
           exact hi4
         | some a =>
           have hj:j < es'.size:=by have:=(Array.getElem?_eq_some_iff.1 e1).1;omega
           have e2:es'[j]? = some es'[j]:=by simp [hj]
           simp only [e2,Option.map_some,Option.getD_some]
           exact (he j a _ e1 e2).key.mono h4
        ·refine .map k (by simp [s]) fun i a1 b1 x y=>?_
         rw [Array.getElem?_modify] at x y
         split at x
         ·rw [if_pos ‹_›] at y
          cases e1:es[i]? with
          | none=>rw [e1] at x;cases x
          | some a2 =>
            cases e2:es'[i]? with
            | none=>rw [e2] at y;cases y
            | some b2 =>
              rw [e1] at x;rw [e2] at y
              cases x;cases y
              have:=((he i a2 b2 e1 e2).mono h4).mono h5
              exact ⟨hab,hv4.mono h5,this.born⟩
         ·rw [if_neg ‹_›] at y
          exact ((he i a1 b1 x y).mono h4).mono h5
     | _=>exact qg.stuck.l
   | _=>exact qg.stuck.l
 | _=>exact qg.stuck.l
end
section
variable {P' P:Program}
theorem Same.cellOfByte (S:Same P' P):∀(d:Nat) (t:TypeId) (o:Nat),Go.cellOfByte P' d t o=Go.cellOfByte P d t o
 | 0,_,_=>rfl
 | d+1,t,o=>by
   have ih:=Same.cellOfByte S d
   unfold Go.cellOfByte
   simp only [S.und,S.bytesOf,S.cellsOf,ih]
theorem Same.cellAtBytes (S:Same P' P) (d:Nat) (t:TypeId) (n o:Nat) (z:Int):Go.cellAtBytes P' d t n o z=Go.cellAtBytes P d t n o z:=by
 unfold Go.cellAtBytes
 simp only [S.cellsOf,S.bytesOf,S.byteOfCell,S.cellOfByte]
end
section
variable {K:Cfg} {P' P:Program} {R:Nat→Nat→Prop}
theorem qg.unsafeAdd (S:Same P' P) (t:TypeId) (o o':Option Addr) (ho:(o=none∧o'=none)∨∃a a',o=some a∧o'=some a'∧qF R a a') {y y':Value} (hy:VR K.C R y y') :
 qg K P' P R (Builtin.unsafeAdd_ #[] t #[.pointer o,y]) (Builtin.unsafeAdd_ #[] t #[.pointer o',y']) (fun R1 a b=>VR K.C R1 a b∧a≠.tuple #[]):=by
 unfold Builtin.unsafeAdd_
 dsimp only
 refine (qg.asInt hy).bind fun R1 n n' h e=>?_
 subst e
 rcases ho with ⟨rfl,rfl⟩ | ⟨a,a',rfl,rfl,ha⟩
 ·dsimp only
  split
  ·exact .unsupported
  ·split <;> first
    | exact .unsupported
    | exact qg.halted
 ·dsimp only
  split
  ·refine (qg.noViewAt (h _ _ ha.1)).bind fun R2 u v h2 e=>?_
   obtain ⟨rfl,rfl⟩:=e
   exact .pure ⟨.ptr ((ha.mono h).mono h2),by simp⟩
  ·split
   ·exact qg.halted
   ·refine (qg.shape (h _ _ ha.1)).bind fun R2 u v h2 e=>?_
    subst e
    cases v with
    | none=>exact .unsupported
    | some v =>
      obtain ⟨el,cells⟩:=v
      dsimp only
      refine qg.program ?_
      rw [S.cellsOf,S.depth,S.cellAtBytes,ha.2.1]
      cases Go.cellAtBytes P P.depth el (cells / P.cellsOf el) a.off n' with
      | none=>exact .unsupported
      | some off=>exact .pure ⟨.ptr ⟨h2 _ _ (h _ _ ha.1),rfl,ha.2.2⟩,by simp⟩
theorem qg.asNumber {a a':Addr} (ha:qF R a a') (l:Bool):qg K P' P R (Go.asNumber a l) (Go.asNumber a' l) (fun R1 x y=>VR K.C R1 x y):=by
 unfold Go.asNumber
 exact (qg.newObj (.number l ha)).bind fun R1 r r' _ hr=>.pure (.ptr (.none hr))
theorem qg.movedNumber (S:Same P' P) (t:TypeId) (o o':Option Addr) (ho:(o=none∧o'=none)∨∃a a',o=some a∧o'=some a'∧qF R a a') {y y':Value} (hy:VR K.C R y y') :
 qg K P' P R (Go.movedNumber t (.pointer o) y) (Go.movedNumber t (.pointer o') y') (fun R1 a b=>VR K.C R1 a b):=by
 unfold Go.movedNumber
 refine (qg.underlying S t).bind fun R1 d d' h e=>?_
 obtain ⟨rfl,_⟩:=e
 have ho1:(o=none∧o'=none)∨∃a a',o=some a∧o'=some a'∧qF R1 a a':=ho.imp id fun ⟨a,a',e1,e2,ha⟩=>⟨a,a',e1,e2,ha.mono h⟩
 dsimp only
 split
 ·exact qg.halted
 ·rcases ho1 with ⟨rfl,rfl⟩ | ⟨a,a',rfl,rfl,ha⟩
  ·exact (qg.unsafeAdd S t none none (.inl ⟨rfl,rfl⟩) (hy.mono h)).mono fun _ _ _ _ h=>h.1
  ·refine (qg.behindNumber ha).bind fun R2 u u' h2 e=>?_
   obtain ⟨x,l⟩:=u
   obtain ⟨x',l'⟩:=u'
   obtain ⟨hx,rfl⟩:=e
   dsimp only at hx ⊢
   refine (qg.unsafeAdd S t (some x) (some x') (.inr ⟨x,x',rfl,rfl,hx⟩) ((hy.mono h).mono h2)).bind fun R3 v v' h3 hv=>?_
   obtain ⟨hv,hne⟩:=hv
   cases hv <;> first
    | exact absurd rfl hne
    | exact qg.asNumber (by assumption) _
    | exact .pure (.zcap _)
    | exact .pure (by constructor <;> assumption)
    | exact .pure (by constructor)
theorem qg.movedPointer (S:Same P' P) (t:TypeId) (o o':Option Addr) (ho:(o=none∧o'=none)∨∃a a',o=some a∧o'=some a'∧qF R a a') {y y':Value} (hy:VR K.C R y y') :
 qg K P' P R (Go.movedPointer t (.pointer o) y) (Go.movedPointer t (.pointer o') y') (fun R1 a b=>VR K.C R1 a b):=by
 unfold Go.movedPointer
 rcases ho with ⟨rfl,rfl⟩ | ⟨a,a',rfl,rfl,ha⟩
 ·exact (qg.unsafeAdd S t none none (.inl ⟨rfl,rfl⟩) hy).mono fun _ _ _ _ h=>h.1
 ·dsimp only
  refine (qg.numberAt ha.1).bind fun R1 u v h e=>?_
  rcases e with ⟨rfl,rfl⟩ | ⟨b,b',l,rfl,rfl,hb⟩
  ·exact (qg.unsafeAdd S t (some a) (some a') (.inr ⟨a,a',rfl,rfl,ha.mono h⟩) (hy.mono h)).mono fun _ _ _ _ h=>h.1
  ·exact qg.halted
theorem qg.twoPlaces (S:Same P' P) (hg:K.ng=P.globals.size) {a a' b b':Addr} (ha:qF R a a') (hb:qF R b b'):qg K P' P R (Op.twoPlaces a b) (Op.twoPlaces a' b') (fun _ x y=>y=x):=by
 unfold Op.twoPlaces
 refine qg.program ?_
 refine qg.at fun w w' hw=>?_
 have e2:decide (a'.block≥P.globals.size)=decide (a.block≥P.globals.size):=by
  have:=hw.glob _ _ ha.1
  rw [hg] at this
  simp only [ge_iff_le,decide_eq_decide]
  omega
 have e1:(a'.block != b'.block)=(a.block != b.block):=by simp only [bne,hw.beqBlock ha hb]
 rw [S.globals,e1,e2]
 dsimp only
 split
 ·exact qg.halted
 ·refine (qg.byteOf S ha).bind fun R1 x y h e=>?_
  subst e
  refine (qg.byteOf S (hb.mono h)).bind fun R2 x y h2 e=>?_
  subst e
  exact .pure rfl
theorem qg.addrSub (S:Same P' P) (hg:K.ng=P.globals.size) (k:IntKind) {a a' b b':Addr} (ha:qF R a a') (hb:qF R b b'):qg K P' P R (Op.addrSub k a b) (Op.addrSub k a' b') (fun R1 x y=>VR K.C R1 x y):=by
 unfold Op.addrSub
 exact (qg.twoPlaces S hg ha hb).bind fun R1 x y _ e=>by subst e;exact .pure (.int _ _)
theorem qg.addrCmp (S:Same P' P) (hg:K.ng=P.globals.size) (op:BinOp) {a a' b b':Addr} (ha:qF R a a') (hb:qF R b b'):qg K P' P R (Op.addrCmp op a b) (Op.addrCmp op a' b') (fun R1 x y=>VR K.C R1 x y):=by
 unfold Op.addrCmp
 refine (qg.twoPlaces S hg ha hb).bind fun R1 x y _ e=>?_
 subst e
 dsimp only
 split <;> first | exact .pure (.bool _) | exact .unsupported
theorem qg.addrMod (S:Same P' P) (k:IntKind) (n:Int) {a a':Addr} (ha:qF R a a'):qg K P' P R (Op.addrMod k a n) (Op.addrMod k a' n) (fun R1 x y=>VR K.C R1 x y):=by
 unfold Op.addrMod
 refine (qg.shape ha.1).bind fun R1 x y h e=>?_
 subst e
 cases y with
 | none=>exact .unsupported
 | some v =>
   obtain ⟨el,c⟩:=v
   dsimp only
   refine (qg.typeInfo S el).bind fun R2 x y h2 e=>?_
   obtain ⟨rfl,_⟩:=e
   split
   ·exact qg.halted
   ·refine (qg.byteOf S ((ha.mono h).mono h2)).bind fun R2 x y h2 e=>?_
    subst e
    exact .pure (.int _ _)
def yQ:BinOp→Bool
 | .add | .sub | .mul | .quo | .rem | .lss | .leq | .gtr | .geq | .and | .or | .xor | .andNot | .shl | .shr=>true
 | _=>false
theorem qg.intBin (op:BinOp) (k k':IntKind) (a b:Int) (t:TypeId) (h:yQ op=true):qg K P' P R (Go.binOp op t (.int k a) (.int k' b)) (Go.binOp op t (.int k a) (.int k' b)) (fun R1 x y=>VR K.C R1 x y):=by
 cases op <;> first
  | (simp [yQ] at h;done)
  | (unfold Go.binOp;dsimp only
     first
      | (unfold Op.shift;split
         ·exact .runtimePanic
         ·dsimp only;exact .pure (.int _ _))
      | (split
         ·exact .stuck
         ·first
           | (unfold Op.intArith;exact .pure (.int _ _))
           | (unfold Op.intCmp;exact .pure (.bool _))
           | (unfold Op.intBits;exact .pure (.int _ _))
           | (unfold Op.intDiv;split
              ·exact .runtimePanic
              ·exact .pure (.int _ _))))
theorem qg.strBin (op:BinOp) (a b:ByteArray) (t:TypeId):qg K P' P R (Go.binOp op t (.string a) (.string b)) (Go.binOp op t (.string a) (.string b)) (fun R1 x y=>VR K.C R1 x y):=by
 cases op <;> (unfold Go.binOp;dsimp only;unfold Op.stringOp;dsimp only;first
  | exact .pure (.bool _)
  | exact .stuck
  | (split
     ·exact .unsupported
     ·exact .pure (.string _)))
theorem qg.addPtr (S:Same P' P) (t:TypeId) (o o':Option Addr) (ho:(o=none∧o'=none)∨∃a a',o=some a∧o'=some a'∧qF R a a') (k:IntKind) (n:Int) :
 qg K P' P R (Go.binOp .add t (.pointer o) (.int k n)) (Go.binOp .add t (.pointer o') (.int k n)) (fun R1 x y=>VR K.C R1 x y):=by
 unfold Go.binOp
 dsimp only
 refine (qg.underlying S t).bind fun R1 d d' h e=>?_
 obtain ⟨rfl,_⟩:=e
 have ho1:(o=none∧o'=none)∨∃a a',o=some a∧o'=some a'∧qF R1 a a':=ho.imp id fun ⟨a,a',e1,e2,ha⟩=>⟨a,a',e1,e2,ha.mono h⟩
 split
 ·exact qg.movedPointer S t o o' ho1 (.int k n)
 ·exact qg.movedNumber S t o o' ho1 (.int k n)
theorem qg.ptrSub (S:Same P' P) (hg:K.ng=P.globals.size) (t:TypeId) {a a' b b':Addr} (ha:qF R a a') (hb:qF R b b'):qg K P' P R (Go.binOp .sub t (.pointer (some a)) (.pointer (some b))) (Go.binOp .sub t (.pointer (some a')) (.pointer (some b'))) (fun R1 x y=>VR K.C R1 x y):=by
 unfold Go.binOp
 dsimp only
 refine (qg.behindNumber ha).bind fun R1 u u' h e=>?_
 refine (qg.behindNumber (hb.mono h)).bind fun R2 v v' h2 e2=>?_
 exact qg.addrSub S hg .u64 (e.1.mono h2) e2.1
theorem qg.ptrCmp (S:Same P' P) (hg:K.ng=P.globals.size) (op:BinOp) (t:TypeId) (ho:op=.lss∨op=.leq∨op=.gtr∨op=.geq) {a a' b b':Addr} (ha:qF R a a') (hb:qF R b b') :
 qg K P' P R (Go.binOp op t (.pointer (some a)) (.pointer (some b))) (Go.binOp op t (.pointer (some a')) (.pointer (some b'))) (fun R1 x y=>VR K.C R1 x y):=by
 rcases ho with rfl | rfl | rfl | rfl <;>
 ·unfold Go.binOp
  dsimp only
  refine (qg.behindNumber ha).bind fun R1 u u' h e=>?_
  refine (qg.behindNumber (hb.mono h)).bind fun R2 v v' h2 e2=>?_
  exact qg.addrCmp S hg _ (e.1.mono h2) e2.1
theorem qg.ptrMod (S:Same P' P) (k:IntKind) (n:Int) {a a':Addr} (ha:qF R a a'):qg K P' P R (do Op.addrMod k (← Go.behindNumber a).1 n) (do Op.addrMod k (← Go.behindNumber a').1 n) (fun R1 x y=>VR K.C R1 x y) :=
 (qg.behindNumber ha).bind fun _ _ _ _ e=>qg.addrMod S k n e.1
set_option maxHeartbeats 2000000 in
theorem qg.arith (S:Same P' P) (hg:K.ng=P.globals.size) (op:BinOp) (t:TypeId) (h:yQ op=true) {x x' y y':Value} (hx:VR K.C R x x') (hy:VR K.C R y y'):qg K P' P R (Go.binOp op t x y) (Go.binOp op t x' y') (fun R1 x y=>VR K.C R1 x y):=by
 cases hx with
 | int k a=>cases hy with
   | int k' b=>exact qg.intBin op k k' a b t h
   | pnil=>cases op <;> first
      | (simp [yQ] at h;done)
      | exact .unsupported
      | exact qg.movedNumber S t none none (.inl ⟨rfl,rfl⟩) (.int k a)
   | ptr hb=>cases op <;> first
      | (simp [yQ] at h;done)
      | exact .unsupported
      | exact qg.movedNumber S t _ _ (.inr ⟨_,_,rfl,rfl,hb⟩) (.int k a)
      | exact qg.ptrMod S k (a+1) hb
   | _=>cases op <;> first | (simp [yQ] at h;done) | exact .stuck | exact .unsupported
 | string a=>cases hy with
   | string b=>exact qg.strBin op a b t
   | _=>cases op <;> first | (simp [yQ] at h;done) | exact .stuck | exact .unsupported
 | pnil=>cases hy with
   | int k n=>cases op <;> first
      | (simp [yQ] at h;done)
      | exact .unsupported
      | exact .stuck
      | exact qg.addPtr S t none none (.inl ⟨rfl,rfl⟩) k n
      | exact qg.movedNumber S t none none (.inl ⟨rfl,rfl⟩) (.int k (-n))
   | _=>cases op <;> first | (simp [yQ] at h;done) | exact .unsupported | exact .stuck
 | ptr ha=>cases hy with
   | int k n=>cases op <;> first
      | (simp [yQ] at h;done)
      | exact .unsupported
      | exact .stuck
      | exact qg.addPtr S t _ _ (.inr ⟨_,_,rfl,rfl,ha⟩) k n
      | exact qg.movedNumber S t _ _ (.inr ⟨_,_,rfl,rfl,ha⟩) (.int k (-n))
      | exact qg.ptrMod S k n ha
      | exact qg.ptrMod S k (n+1) ha
   | ptr hb=>cases op <;> first
      | (simp [yQ] at h;done)
      | exact .unsupported
      | exact qg.ptrSub S hg t ha hb
      | exact qg.ptrCmp S hg _ t (by simp) ha hb
   | _=>cases op <;> first | (simp [yQ] at h;done) | exact .unsupported | exact .stuck
 | _=>cases hy <;> cases op <;> first | (simp [yQ] at h;done) | exact .stuck | exact .unsupported
end
section
variable {K:Cfg} {P' P:Program} {R:Nat→Nat→Prop}
def cmpB (P:Program) (t:TypeId) (y:Operand):Bool :=
 !P.eqGuardType P.depth t && (eqT P 6 t || (match P.underlying t with | some (.slice _)=>true | _=>false) && (match y with | .const (.slice none _ _)=>true | _=>false))
theorem qg.eqGuard (S:Same P' P) (op:BinOp) (t:TypeId) (p q:Operand) (h:cmpB P t q=true) {x x' y y':Value} (hx:VR K.C R x x') (hy:VR K.C R y y') :
 qg K P' P R (Go.eqGuard op t p q x y) (Go.eqGuard op t p q x' y') (fun _ _ _=>True):=by
 have hgt:P.eqGuardType P.depth t=false:=by
  simp only [cmpB,Bool.and_eq_true,Bool.not_eq_true'] at h
  exact h.1
 have hni:∀ms,P.underlying t≠some (.interface ms):=by
  intro ms e
  simp only [cmpB,Bool.and_eq_true,Bool.or_eq_true,e] at h
  rcases h.2 with h | h
  ·simp only [eqT,e,Bool.and_eq_true] at h
   exact absurd h.2 (by simp)
  ·exact absurd h.1 (by simp)
 clear h
 have inner:qg K P' P R (match x,y with
  | .nilIface,.nilIface =>
    if (p matches .const _) || (q matches .const _) then (Pure.pure ():Sem Unit) else do
    if ← Op.eqGuardIn Op.maxDepth t x y then Go.unsupported (.noEntry "binop/eql: two nil values of an interface type with methods, neither of them the literal nil")
  | .agg _,.agg _=>do
    if !(← Go.program).eqGuardType (← Go.program).depth t then (Pure.pure ():Sem Unit) else do
    if ← Op.eqGuardIn Op.maxDepth t x y then Go.unsupported (.noEntry "binop/eql: two nil values of an interface type with methods, in a part of a struct or an array")
  | _,_=>Pure.pure ()) (match x',y' with
  | .nilIface,.nilIface =>
    if (p matches .const _) || (q matches .const _) then (Pure.pure ():Sem Unit) else do
    if ← Op.eqGuardIn Op.maxDepth t x' y' then Go.unsupported (.noEntry "binop/eql: two nil values of an interface type with methods, neither of them the literal nil")
  | .agg _,.agg _=>do
    if !(← Go.program).eqGuardType (← Go.program).depth t then (Pure.pure ():Sem Unit) else do
    if ← Op.eqGuardIn Op.maxDepth t x' y' then Go.unsupported (.noEntry "binop/eql: two nil values of an interface type with methods, in a part of a struct or an array")
  | _,_=>Pure.pure ()) (fun _ _ _=>True):=by
  cases hx <;> cases hy <;> first
   | (exact qg.pure trivial)
   | (cases x' <;> first | exact qg.pure trivial | (simp_all [xy];done))
   | (cases y' <;> first | exact qg.pure trivial | (simp_all [xy];done))
   | (cases x' <;> cases y' <;> first | exact qg.pure trivial | (simp_all [xy];done))
   | skip
  ·dsimp only
   generalize ((match p with | .const _=>true | _=>false) || (match q with | .const _=>true | _=>false))=bb
   cases bb with
   | true=>exact .pure trivial
   | false =>
     refine qg.bind (Q:=fun _ a b=>b=a∧a=false) ?_ fun R1 a b _ e=>?_
     ·unfold Op.maxDepth Op.eqGuardIn
      refine (qg.underlying S t).bind fun R1 d d' _ e=>?_
      obtain ⟨rfl,hd⟩:=e
      cases d' <;> first
       | exact absurd hd (hni _)
       | exact .pure ⟨rfl,rfl⟩
     ·obtain ⟨rfl,rfl⟩:=e
      exact .pure trivial
  ·refine qg.program (qg.program ?_)
   rw [S.depth,S.eqGuardType,hgt]
   exact .pure trivial
 unfold Go.eqGuard
 cases op <;> first
  | exact inner
  | exact qg.pure trivial
theorem qg.lostAt {α β γ:Type} {s:Sem α} {s0:Sem γ} {s':Sem β} {Q0:(Nat→Nat→Prop)→α→γ→Prop} {Q:(Nat→Nat→Prop)→α→β→Prop} (k:qg K P' P R s s0 Q0) (h:∀w,∃x w1,s.run P' w=.halt x w1):qg K P' P R s s' Q:=fun w w' hw=>by
 obtain ⟨x,w1,e⟩:=h w
 exact ⟨fun a w2 hr _=>(by rw [e] at hr;cases hr),(k w w' hw).2.1,(k w w' hw).2.2⟩
theorem qbT (S:Same P' P) (t:TypeId) (q:Operand) (h:cmpB P t q=true) (hq:∀v,q=.const v→Value.tuple #[]=v) (w:World):∃x w1,(Op.equal t (.tuple #[]) (.tuple #[])).run P' w=.halt x w1:=by
 simp only [cmpB,Bool.and_eq_true,Bool.or_eq_true] at h
 rcases h.2 with h | ⟨h1,h2⟩
 ·unfold Op.equal Op.maxDepth Op.equalIn
  rw [Sem.run_bind]
  unfold eqT at h
  rw [Bool.and_eq_true] at h
  cases e:P.underlying t with
  | none=>rw [e] at h;simp at h
  | some d =>
    have e':(Go.underlying t).run P' w=.ok d w:=by
     unfold Go.underlying
     simp only [Sem.run_bind,run_program,Result.andThen_ok,S.und,e]
     rfl
    rw [e']
    rw [e] at h
    cases d <;> first
     | exact ⟨_,_,rfl⟩
     | (exfalso;have h2:=h.2;simp at h2;done)
 ·cases q with
  | const v =>
    obtain rfl:=hq v rfl
    simp at h2
  | _=>simp at h2
theorem qbb (S:Same P' P) (op:BinOp) (ho:op=.eql∨op=.neq) (t:TypeId) (q:Operand) (h:cmpB P t q=true) (hq:∀v,q=.const v→Value.tuple #[]=v) {x' y':Value}
 (key:qg K P' P R (Op.equal t (.tuple #[]) (.tuple #[])) (Op.equal t x' y') (fun _ a b=>b=a)) (s':Sem Value) (Q:(Nat→Nat→Prop)→Value→Value→Prop):qg K P' P R (Go.binOp op t (.tuple #[]) (.tuple #[])) s' Q:=by
 have hh:=qbT S t q h hq
 rcases ho with rfl | rfl
 ·show qg K P' P R (Op.equal t (.tuple #[]) (.tuple #[]) >>= fun b=>Pure.pure (Value.bool b)) s' Q
  refine qg.lostAt (qg.bind (f':=fun _=>Pure.pure ()) (Q':=fun _ _ _=>True) key fun R1 a b _ e=>.pure trivial) fun w=>?_
  obtain ⟨x,w1,e⟩:=hh w
  exact ⟨x,w1,by rw [Sem.run_bind,e];rfl⟩
 ·show qg K P' P R (Op.equal t (.tuple #[]) (.tuple #[]) >>= fun b=>Pure.pure (Value.bool (!b))) s' Q
  refine qg.lostAt (qg.bind (f':=fun _=>Pure.pure ()) (Q':=fun _ _ _=>True) key fun R1 a b _ e=>.pure trivial) fun w=>?_
  obtain ⟨x,w1,e⟩:=hh w
  exact ⟨x,w1,by rw [Sem.run_bind,e];rfl⟩
set_option maxHeartbeats 2000000 in
theorem qg.cmp (S:Same P' P) (hg:K.ng=P.globals.size) (op:BinOp) (ho:op=.eql∨op=.neq) (t:TypeId) (q:Operand) (h:cmpB P t q=true) {x x' y y':Value} (hx:VR K.C R x x') (hy:VR K.C R y y') (hq:∀v,q=.const v→y=v) :
 qg K P' P R (Go.binOp op t x y) (Go.binOp op t x' y') (fun R1 x y=>VR K.C R1 x y):=by
 have key:qg K P' P R (Op.equal t x y) (Op.equal t x' y') (fun _ a b=>b=a):=by
  simp only [cmpB,Bool.and_eq_true,Bool.or_eq_true] at h
  rcases h.2 with h | ⟨h1,h2⟩
  ·exact qg.equal S hg h hx hy
  ·cases q with
   | const v =>
     obtain rfl:=hq v rfl
     cases hy <;> first
      | (simp at h2;done)
      | skip
     unfold Op.equal Op.maxDepth Op.equalIn
     refine (qg.underlying S t).bind fun R1 d d' _ e=>?_
     obtain ⟨rfl,hd⟩:=e
     rw [hd] at h1
     cases d' <;> first
      | (simp at h1;done)
      | skip
     cases hx <;> first
      | exact .pure rfl
      | exact .stuck
   | _=>simp at h2
 rcases ho with rfl | rfl
 ·cases hx <;> cases hy <;> first
   | (unfold Go.binOp;dsimp only;exact key.bind fun R1 a b _ e=>by subst e;exact .pure (.bool _))
   | (cases x' <;> first | (simp_all [xy];done) | (unfold Go.binOp;dsimp only;exact key.bind fun R1 a b _ e=>by subst e;exact .pure (.bool _)))
   | (cases y' <;> first | (simp_all [xy];done) | (unfold Go.binOp;dsimp only;exact key.bind fun R1 a b _ e=>by subst e;exact .pure (.bool _)))
   | exact qbb S _ (.inl rfl) t q h hq key _ _
   | exact qg.strBin .eql _ _ t
   | (unfold Go.binOp;dsimp only;split
      ·exact .stuck
      ·exact .pure (.bool _))
 ·cases hx <;> cases hy <;> first
   | (unfold Go.binOp;dsimp only;exact key.bind fun R1 a b _ e=>by subst e;exact .pure (.bool _))
   | (cases x' <;> first | (simp_all [xy];done) | (unfold Go.binOp;dsimp only;exact key.bind fun R1 a b _ e=>by subst e;exact .pure (.bool _)))
   | (cases y' <;> first | (simp_all [xy];done) | (unfold Go.binOp;dsimp only;exact key.bind fun R1 a b _ e=>by subst e;exact .pure (.bool _)))
   | exact qbb S _ (.inr rfl) t q h hq key _ _
   | exact qg.strBin .neq _ _ t
   | (unfold Go.binOp;dsimp only;split
      ·exact .stuck
      ·exact .pure (.bool _))
theorem qg.unary (op:UnOp) {x x':Value} (hx:VR K.C R x x'):qg K P' P R (Op.unary op x) (Op.unary op x') (fun R1 x y=>VR K.C R1 x y):=by
 unfold Op.unary
 cases hx <;> cases op <;> first
  | exact .stuck
  | exact .unsupported
  | exact .pure (.bool _)
  | (dsimp only;unfold Op.intArith;exact .pure (.int _ _))
  | (dsimp only;unfold Op.intBits;exact .pure (.int _ _))
def convB (P:Program) (s d:TypeId):Bool :=
 match P.underlying s,P.underlying d with
 | some (.int _),some (.int _)=>true
 | some .string,some (.slice e)=>(match P.underlying e with | some (.int .u8)=>true | _=>false)
 | some .string,some .string=>true
 | _,_=>false
theorem qg.stringToBytes (e:TypeId) (s:ByteArray):qg K P' P R (Conv.stringToBytes e s) (Conv.stringToBytes e s) (fun R1 x y=>VR K.C R1 x y):=by
 unfold Conv.stringToBytes
 refine (qg.choose _).bind fun R1 c c' h1 e1=>?_
 subst e1
 have ar:AR K.C R1 ((s.data.map fun b=>Value.int .u8 b.toNat) ++ Array.replicate (c' - s.size) (.int .u8 0)) ((s.data.map fun b=>Value.int .u8 b.toNat) ++ Array.replicate (c' - s.size) (.int .u8 0)) :=
  (AR.map _ fun _ _=>.int _ _).append (AR.replicate _ (.int _ _))
 dsimp only
 refine qg.at fun w w' hw=>?_
 have fresh:qg K P' P R1 (Go.newRow e ((s.data.map fun b=>Value.int .u8 b.toNat) ++ Array.replicate (c' - s.size) (.int .u8 0))) (Go.newRow e ((s.data.map fun b=>Value.int .u8 b.toNat) ++ Array.replicate (c' - s.size) (.int .u8 0))) (fun R2 a a'=>qF R2 a a'∧¬ K.Fz a.block):=by
  intro w w' hw
  refine ⟨fun a w1 hr hd=>?_,(qg.newRow (P':=P') (P:=P) e ar w w' hw).2⟩
  obtain ⟨R2,b,w1',e1,h1,h2,h3,h4,h5⟩:=(qg.newRow (P':=P') (P:=P) e ar w w' hw).1 a w1 hr hd
  refine ⟨R2,b,w1',e1,h1,h2,h3,⟨h4,fun hz=>?_⟩,h5⟩
  obtain ⟨c,t,hi,hc,_⟩:=hw.fz _ hz
  have hlt:=(Array.getElem?_eq_some_iff.1 hc).1
  unfold Go.newRow at hr
  simp only [Sem.run_bind,run_newObj,Result.andThen_ok,Sem.run_pure,Result.ok.injEq] at hr
  rw [← hr.1] at hlt
  simp at hlt
 refine fresh.bind fun R2 a a' h2 ha=>?_
 refine qg.bind (Q:=fun _ _ _=>True) ?_ fun R3 _ _ h3 _=>.pure (.slice _ _ (ha.1.mono h3))
 unfold Go.markStringish
 refine (qg.shape ha.1.1).bind fun R3 x y h3 e=>?_
 subst e
 cases y with
 | none=>exact .pure trivial
 | some y =>
   dsimp only
   exact qg.freeze ⟨h3 _ _ ha.1.1,rfl,rfl⟩ ha.2
theorem qg.convert (S:Same P' P) (s d:TypeId) (h:convB P s d=true) {x x':Value} (hx:VR K.C R x x'):qg K P' P R (Go.convert s d x) (Go.convert s d x') (fun R1 x y=>VR K.C R1 x y):=by
 unfold Go.convert
 refine (qg.underlying S s).bind fun R1 a a' h1 e=>?_
 obtain ⟨rfl,ha⟩:=e
 refine (qg.underlying S d).bind fun R2 b b' h2 e=>?_
 obtain ⟨rfl,hb⟩:=e
 replace hx:=(hx.mono h1).mono h2
 simp only [convB,ha,hb] at h
 cases a' <;> cases b' <;> first
  | (simp at h;done)
  | skip
 ·cases hx <;> first
   | exact .unsupported
   | (dsimp only;unfold Conv.intToInt;exact .pure (.int _ _))
 ·cases hx <;> first
   | exact .unsupported
   | exact .pure (.string _)
   | (dsimp only;unfold Conv.intToString;exact .pure (.string _))
 ·cases hx <;> first
   | exact .unsupported
   | skip
  ·rename_i el s
   dsimp only
   refine (qg.underlying S el).bind fun R3 c c' h3 e=>?_
   obtain ⟨rfl,hc⟩:=e
   simp only [hc] at h
   cases c' <;> first
    | (simp at h;done)
    | skip
   rename_i k
   cases k <;> first
    | (simp at h;done)
    | exact qg.stringToBytes _ _
end
section
variable {K:Cfg} {P' P:Program} {R:Nat→Nat→Prop}
theorem qg.extract {x x':Value} (i:Nat) (hx:VR K.C R x x'):qg K P' P R (Instr.extract x i) (Instr.extract x' i) (fun R1 x y=>VR K.C R1 x y):=by
 unfold Instr.extract
 cases hx <;> first
  | exact .stuck
  | skip
 rename_i xs xs' s e
 have h:AR K.C R xs xs':=⟨s,e⟩
 dsimp only
 cases e1:xs[i]? with
 | none=>exact .stuck
 | some v=>obtain ⟨v',e2,hv⟩:=h.get e1;rw [e2];exact .pure hv
theorem qg.makeMap (t:TypeId):qg K P' P R (Instr.makeMap t none) (Instr.makeMap t none) (fun R1 x y=>VR K.C R1 x y):=by
 unfold Instr.makeMap
 exact (qg.newObj (.map 0 rfl fun i e e' x=>by simp at x)).bind fun R1 r r' _ hr=>.pure (.map hr)
theorem qg.index (S:Same P' P) (t:TypeId) {x x' i i':Value} (hx:VR K.C R x x') (hi:VR K.C R i i'):qg K P' P R (Instr.index t x i) (Instr.index t x' i') (fun R1 x y=>VR K.C R1 x y):=by
 unfold Instr.index
 refine (qg.asIntOf hi).bind fun R1 ki ki' h1 e=>?_
 subst e
 obtain ⟨k,n⟩:=ki'
 dsimp only
 refine (qg.underlying S t).bind fun R2 d d' h2 e=>?_
 obtain ⟨rfl,_⟩:=e
 replace hx:=(hx.mono h1).mono h2
 cases d' with
 | array len el =>
   cases hx <;> first
    | exact .stuck
    | skip
   rename_i xs xs' s e
   have h:AR K.C R2 xs xs':=⟨s,e⟩
   dsimp only
   split
   ·refine (qg.sizeOf S el).bind fun R3 m m' h3 e=>?_
    subst e
    exact qg.part S el _ (h.mono h3)
   ·exact .boundsPanic
 | string =>
   cases hx <;> first
    | exact .stuck
    | skip
   rename_i s
   dsimp only
   split
   ·exact .pure (.int _ _)
   ·exact .boundsPanic
 | _=>exact .stuck
theorem qg.field (S:Same P' P) (t:TypeId) (i:Nat) {x x':Value} (hx:VR K.C R x x'):qg K P' P R (Instr.field t x i) (Instr.field t x' i) (fun R1 x y=>VR K.C R1 x y):=by
 unfold Instr.field
 refine (qg.underlying S t).bind fun R2 d d' h2 e=>?_
 obtain ⟨rfl,_⟩:=e
 replace hx:=hx.mono h2
 cases d' <;> first
  | exact .stuck
  | skip
 rename_i fs _
 dsimp only
 cases fs[i]? with
 | none=>exact .stuck
 | some f =>
   dsimp only
   exact (qg.asAgg hx).bind fun R3 u u' h3 hu=>qg.part S f.type f.offset hu
theorem qg.sliceBound {x x':Value} (y:Nat) (c:BoundsCode) (hx:VR K.C R x x'):qg K P' P R (Instr.sliceBound x y c) (Instr.sliceBound x' y c) (fun _ x y=>y=x):=by
 unfold Instr.sliceBound
 refine (qg.asIntOf hx).bind fun R1 ki ki' h1 e=>?_
 subst e
 obtain ⟨k,n⟩:=ki'
 dsimp only
 split
 ·exact .pure rfl
 ·exact .boundsPanic
theorem qg.sliceBound0 {x x':Value} (c:BoundsCode) (hx:VR K.C R x x'):qg K P' P R (Instr.sliceBound x 0 c) (Instr.sliceBound x' 0 c) (fun _ x y=>y=x∧x=0):=by
 unfold Instr.sliceBound
 refine (qg.asIntOf hx).bind fun R1 ki ki' h1 e=>?_
 subst e
 obtain ⟨k,n⟩:=ki'
 dsimp only
 split
 ·exact .pure ⟨rfl,by omega⟩
 ·exact .boundsPanic
def OVR (C:FuncId→Prop) (R:Nat→Nat→Prop) (x y:Option Value):Prop:=(x=none∧y=none)∨∃v v',x=some v∧y=some v'∧VR C R v v'
theorem OVR.mono {C:FuncId→Prop} {R R1:Nat→Nat→Prop} (h:∀b c,R b c→R1 b c) {x y:Option Value} (o:OVR C R x y):OVR C R1 x y :=
 o.imp id fun ⟨v,v',a,b,c⟩=>⟨v,v',a,b,c.mono h⟩
theorem qg.sliceBounds (isS:Bool) (len cap:Nat) {l l' h h' m m':Option Value} (hl:OVR K.C R l l') (hh:OVR K.C R h h') (hm:OVR K.C R m m') :
 qg K P' P R (Instr.sliceBounds isS len cap l h m) (Instr.sliceBounds isS len cap l' h' m') (fun _ x y=>y=x):=by
 unfold Instr.sliceBounds
 rcases hm with ⟨rfl,rfl⟩ | ⟨mv,mv',rfl,rfl,hm⟩
 ·dsimp only
  refine qg.bind (Q:=fun _ x y=>y=x) (.pure rfl) fun R1 a a' h1 e=>?_
  subst e
  rcases hh with ⟨rfl,rfl⟩ | ⟨v,v',rfl,rfl,hh⟩
  ·refine qg.bind (Q:=fun _ x y=>y=x) (.pure rfl) fun R2 b b' h2 e=>?_
   subst e
   rcases hl with ⟨rfl,rfl⟩ | ⟨v,v',rfl,rfl,hl⟩
   ·exact .pure rfl
   ·refine (qg.sliceBound _ _ ((hl.mono h1).mono h2)).bind fun R3 c c' _ e=>?_
    subst e;exact .pure rfl
  ·refine (qg.sliceBound _ _ (hh.mono h1)).bind fun R2 b b' h2 e=>?_
   subst e
   rcases hl with ⟨rfl,rfl⟩ | ⟨v,v',rfl,rfl,hl⟩
   ·exact .pure rfl
   ·refine (qg.sliceBound _ _ ((hl.mono h1).mono h2)).bind fun R3 c c' _ e=>?_
    subst e;exact .pure rfl
 ·dsimp only
  refine (qg.sliceBound _ _ hm).bind fun R1 a a' h1 e=>?_
  subst e
  rcases hh with ⟨rfl,rfl⟩ | ⟨v,v',rfl,rfl,hh⟩
  ·exact qg.halted
  ·refine (qg.sliceBound _ _ (hh.mono h1)).bind fun R2 b b' h2 e=>?_
   subst e
   rcases hl with ⟨rfl,rfl⟩ | ⟨v,v',rfl,rfl,hl⟩
   ·exact .pure rfl
   ·refine (qg.sliceBound _ _ ((hl.mono h1).mono h2)).bind fun R3 c c' _ e=>?_
    subst e;exact .pure rfl
theorem qg.sliceBounds0 (isS:Bool) {l l' h h' m m':Option Value} (hl:OVR K.C R l l') (hh:OVR K.C R h h') (hm:OVR K.C R m m') :
 qg K P' P R (Instr.sliceBounds isS 0 0 l h m) (Instr.sliceBounds isS 0 0 l' h' m') (fun _ x y=>y=x∧x=(0,0,0)):=by
 unfold Instr.sliceBounds
 rcases hm with ⟨rfl,rfl⟩ | ⟨mv,mv',rfl,rfl,hm⟩
 ·dsimp only
  refine qg.bind (Q:=fun _ x y=>y=x∧x=0) (.pure ⟨rfl,rfl⟩) fun R1 a a' h1 e=>?_
  obtain ⟨rfl,rfl⟩:=e
  rcases hh with ⟨rfl,rfl⟩ | ⟨v,v',rfl,rfl,hh⟩
  ·refine qg.bind (Q:=fun _ x y=>y=x∧x=0) (.pure ⟨rfl,rfl⟩) fun R2 b b' h2 e=>?_
   obtain ⟨rfl,rfl⟩:=e
   rcases hl with ⟨rfl,rfl⟩ | ⟨v,v',rfl,rfl,hl⟩
   ·exact .pure ⟨rfl,rfl⟩
   ·refine (qg.sliceBound0 _ ((hl.mono h1).mono h2)).bind fun R3 c c' _ e=>?_
    obtain ⟨rfl,rfl⟩:=e;exact .pure ⟨rfl,rfl⟩
  ·refine (qg.sliceBound0 _ (hh.mono h1)).bind fun R2 b b' h2 e=>?_
   obtain ⟨rfl,rfl⟩:=e
   rcases hl with ⟨rfl,rfl⟩ | ⟨v,v',rfl,rfl,hl⟩
   ·exact .pure ⟨rfl,rfl⟩
   ·refine (qg.sliceBound0 _ ((hl.mono h1).mono h2)).bind fun R3 c c' _ e=>?_
    obtain ⟨rfl,rfl⟩:=e;exact .pure ⟨rfl,rfl⟩
 ·dsimp only
  refine (qg.sliceBound0 _ hm).bind fun R1 a a' h1 e=>?_
  obtain ⟨rfl,rfl⟩:=e
  rcases hh with ⟨rfl,rfl⟩ | ⟨v,v',rfl,rfl,hh⟩
  ·exact qg.halted
  ·refine (qg.sliceBound0 _ (hh.mono h1)).bind fun R2 b b' h2 e=>?_
   obtain ⟨rfl,rfl⟩:=e
   rcases hl with ⟨rfl,rfl⟩ | ⟨v,v',rfl,rfl,hl⟩
   ·exact .pure ⟨rfl,rfl⟩
   ·refine (qg.sliceBound0 _ ((hl.mono h1).mono h2)).bind fun R3 c c' _ e=>?_
    obtain ⟨rfl,rfl⟩:=e;exact .pure ⟨rfl,rfl⟩
theorem qg.sliceAt (S:Same P' P) (t:TypeId) {x x':Value} {l l' h h' m m':Option Value} (hx:VR K.C R x x') (hl:OVR K.C R l l') (hh:OVR K.C R h h') (hm:OVR K.C R m m') :
 qg K P' P R (Instr.sliceAt t x l h m) (Instr.sliceAt t x' l' h' m') (fun R1 x y=>VR K.C R1 x y):=by
 have inner:∀{R1:Nat→Nat→Prop},(∀b c,R b c→R1 b c)→qg K P' P R1 (Instr.slice t x l h m) (Instr.slice t x' l' h' m') (fun R1 x y=>VR K.C R1 x y):=by
  intro R1 hR
  replace hx:=hx.mono hR
  replace hl:=hl.mono hR
  replace hh:=hh.mono hR
  replace hm:=hm.mono hR
  unfold Instr.slice
  refine (qg.underlying S t).bind fun R2 d d' h2 e=>?_
  obtain ⟨rfl,_⟩:=e
  replace hx:=hx.mono h2
  replace hl:=hl.mono h2
  replace hh:=hh.mono h2
  replace hm:=hm.mono h2
  cases d' with
  | string =>
    cases hx <;> first
     | exact .stuck
     | skip
    dsimp only
    rcases hm with ⟨rfl,rfl⟩ | ⟨mv,mv',rfl,rfl,hm⟩
    ·refine (qg.sliceBounds false _ _ hl hh (.inl ⟨rfl,rfl⟩)).bind fun R3 a a' h3 e=>?_
     subst e
     exact .pure (.string _)
    ·exact qg.halted
  | slice el =>
    cases hx with
    | snil len cap =>
      dsimp only
      refine (qg.sliceBounds true len cap hl hh hm).bind fun R3 a a' h3 e=>?_
      subst e
      refine (qg.sizeOf S el).bind fun R4 s s' h4 e=>?_
      subst e
      refine .pure ?_
      split <;> exact .snil _ _
    | slice len cap ha =>
      dsimp only
      refine (qg.sliceBounds true len cap hl hh hm).bind fun R3 a a' h3 e=>?_
      subst e
      refine (qg.sizeOf S el).bind fun R4 s s' h4 e=>?_
      subst e
      refine .pure ?_
      split
      ·exact .slice _ _ ((ha.mono h3).mono h4)
      ·exact .slice _ _ (((ha.mono h3).mono h4).add _)
    | zcap a =>
      dsimp only
      refine (qg.sliceBounds0 true hl hh hm).bind fun R3 b b' h3 e=>?_
      obtain ⟨rfl,rfl⟩:=e
      refine (qg.sizeOf S el).bind fun R4 s s' h4 e=>?_
      subst e
      refine .pure ?_
      exact .zcap a
    | _=>exact .stuck
  | pointer arr =>
    have tail:∀{R3:Nat→Nat→Prop} {a a':Addr},(∀b c,R2 b c→R3 b c)→qF R3 a a'→qg K P' P R3
     (do let .array n elem ← Go.underlying arr | Go.stuck "Slice: array type expected"
         let (l,h,m) ← Instr.sliceBounds false n n l h m
         let size ← Go.sizeOf elem
         Pure.pure (Value.slice (some (if m=l then a else a.add (l * size))) (h - l) (m - l)))
     (do let .array n elem ← Go.underlying arr | Go.stuck "Slice: array type expected"
         let (l,h,m) ← Instr.sliceBounds false n n l' h' m'
         let size ← Go.sizeOf elem
         Pure.pure (Value.slice (some (if m=l then a' else a'.add (l * size))) (h - l) (m - l))) (fun R1 x y=>VR K.C R1 x y):=by
     intro R3 a a' h3 ha
     refine (qg.underlying S arr).bind fun R4 e1 e2 h4 e=>?_
     obtain ⟨rfl,_⟩:=e
     cases e2 with
     | array n elem =>
       dsimp only
       refine (qg.sliceBounds false n n ((hl.mono h3).mono h4) ((hh.mono h3).mono h4) ((hm.mono h3).mono h4)).bind fun R5 b b' h5 e=>?_
       subst e
       refine (qg.sizeOf S elem).bind fun R6 s s' h6 e=>?_
       subst e
       refine .pure ?_
       have ha6:=((ha.mono h4).mono h5).mono h6
       split
       ·exact .slice _ _ ha6
       ·exact .slice _ _ (ha6.add _)
     | _=>exact .stuck
    have go:=(qg.asAddr (P':=P') (P:=P) hx).bind (Q':=fun R1 x y=>VR K.C R1 x y) fun R3 a a' h3 ha=>tail h3 ha
    cases hx <;> exact go
  | _=>exact .stuck
 unfold Instr.sliceAt
 refine (qg.underlying S t).bind fun R1 d d' h1 e=>?_
 obtain ⟨rfl,_⟩:=e
 cases d' with
 | array n elem =>
   dsimp only
   refine (qg.sureAddr (hx.mono h1)).bind fun R2 a a' h2 ha=>?_
   refine (qg.sliceBounds false n n ((hl.mono h1).mono h2) ((hh.mono h1).mono h2) ((hm.mono h1).mono h2)).bind fun R3 b b' h3 e=>?_
   subst e
   refine (qg.sizeOf S elem).bind fun R4 s s' h4 e=>?_
   subst e
   refine .pure ?_
   have ha4:=(ha.mono h3).mono h4
   split
   ·exact .slice _ _ ha4
   ·exact .slice _ _ (ha4.add _)
 | _=>exact inner h1
theorem qg.makeSlice (S:Same P' P) (t:TypeId) {l l' c c':Value} (hl:VR K.C R l l') (hc:VR K.C R c c'):qg K P' P R (Instr.makeSlice t l c) (Instr.makeSlice t l' c') (fun R1 x y=>VR K.C R1 x y):=by
 unfold Instr.makeSlice
 refine (qg.underlying S t).bind fun R1 d d' h1 e=>?_
 obtain ⟨rfl,_⟩:=e
 cases d' with
 | slice el =>
   refine (qg.asInt (hl.mono h1)).bind fun R2 n n' h2 e=>?_
   subst e
   refine (qg.asInt ((hc.mono h1).mono h2)).bind fun R3 m m' h3 e=>?_
   subst e
   refine (qg.typeInfo S el).bind fun R4 i i' h4 e=>?_
   obtain ⟨rfl,_⟩:=e
   dsimp only
   split
   ·split
    ·exact qg.panicked
    ·split
     ·exact qg.panicked
     ·exact (qg.choose _).bind fun _ _ _ _ _=>qg.panicked
   ·refine (qg.askRoom _).bind fun R5 _ _ h5 _=>?_
    refine (qg.sizeOf S el).bind fun R6 s s' h6 e=>?_
    subst e
    split
    ·refine (qg.pure (Q:=fun R1 x y=>AR K.C R1 x y) AR.nil).bind fun R7 z z' h7 hz=>?_
     exact (qg.newRow el (hz.rows _)).bind fun R8 a a' _ ha=>.pure (.slice _ _ ha)
    ·refine (qg.zeroValue S el).bind fun R7 z z' h7 e=>?_
     refine (qg.pure (Q:=fun R1 x y=>AR K.C R1 x y) e.2.cells).bind fun R8 z z' h8 hz=>?_
     exact (qg.newRow el (hz.rows _)).bind fun R8 a a' _ ha=>.pure (.slice _ _ ha)
 | _=>exact .stuck
theorem qg.len (S:Same P' P) (ts:Array TypeId) (t:TypeId) {xs xs':Array Value} (h:AR K.C R xs xs'):qg K P' P R (Builtin.len_ ts t xs) (Builtin.len_ ts t xs') (fun R1 x y=>VR K.C R1 x y):=by
 unfold Builtin.len_
 cases e1:ts[0]? with
 | none=>exact .stuck
 | some u =>
   cases e2:xs[0]? with
   | none=>exact .stuck
   | some v =>
     obtain ⟨v',e3,hv⟩:=h.get e2
     rw [e3]
     dsimp only
     refine (qg.underlying S u).bind fun R1 d d' h1 e=>?_
     obtain ⟨rfl,_⟩:=e
     replace hv:=hv.mono h1
     cases d' with
     | pointer arr =>
       have go:qg K P' P R1 (do
        let .array n _ ← Go.underlying arr | Go.stuck "len: pointer to array expected"
        Pure.pure (Go.goInt n)) (do
        let .array n _ ← Go.underlying arr | Go.stuck "len: pointer to array expected"
        Pure.pure (Go.goInt n)) (fun R1 x y=>VR K.C R1 x y):=by
        refine (qg.underlying S arr).bind fun R2 d d' h2 e=>?_
        obtain ⟨rfl,_⟩:=e
        cases d' <;> first
         | exact .stuck
         | exact .pure (.int _ _)
       cases hv <;> exact go
     | map kt et =>
       cases hv <;> first
        | exact .stuck
        | exact .pure (.int _ _)
        | skip
       rename_i r r' hr
       dsimp only
       refine (qg.getObj hr).bind fun R2 o o' h2 ho=>?_
       obtain ⟨ho,_⟩:=ho
       cases ho with
       | map k s e=>dsimp only;rw [s];exact .pure (.int _ _)
       | _=>exact .stuck
     | _=>cases hv <;> first | exact .stuck | exact .pure (.int _ _)
theorem qg.firstCells {x x':Value} (size n:Nat) (hn:∀a,x=.slice (some a) 0 0→n=0) (hx:VR K.C R x x'):qg K P' P R (Builtin.firstCells size n x) (Builtin.firstCells size n x') (fun R1 a b=>AR K.C R1 a b):=by
 unfold Builtin.firstCells
 cases hx <;> first
  | exact .stuck
  | exact .pure .nil
  | exact .pure (AR.map _ fun _ _=>.int _ _)
  | skip
 ·exact qg.loadCells _ (by assumption)
 ·obtain rfl:=hn _ rfl
  rw [Nat.zero_mul]
  exact .pure .nil
theorem qg.firstCells0 {x x':Value} (size:Nat) (hx:VR K.C R x x'):qg K P' P R (Builtin.firstCells size 0 x) (Builtin.firstCells size 0 x') (fun _ a b=>a=#[]∧b=#[]):=by
 unfold Builtin.firstCells
 cases hx <;> first
  | exact .stuck
  | exact .pure ⟨rfl,rfl⟩
  | (rw [Nat.zero_mul];exact .pure ⟨rfl,rfl⟩)
  | exact .pure (by simp)
theorem qg.lenOf {x x':Value} (hx:VR K.C R x x'):qg K P' P R (Builtin.lenOf x) (Builtin.lenOf x') (fun _ a b=>b=a∧∀ad,x=.slice (some ad) 0 0→a=0):=by
 unfold Builtin.lenOf
 cases hx <;> first
  | exact .stuck
  | exact .pure ⟨rfl,fun ad e=>by cases e <;> rfl⟩
  | exact .pure ⟨rfl,fun ad e=>by cases e⟩
theorem AR.zeroCells {C:FuncId→Prop} {z z':Array Value} (h:AR C R z z') (n:Nat):AR C R (Builtin.zeroCells z n) (Builtin.zeroCells z' n):=by
 unfold Builtin.zeroCells
 rw [h.size]
 exact AR.map _ fun i _=>h.getBang _ VR.default
def appB (P:Program) (ts:Array TypeId):Bool :=
 match ts[1]? with
 | some t=>(match P.underlying t with | some (.slice _) | some .string=>true | _=>false)
 | none=>false
theorem jM (a:Addr) (n:Nat) (P:Program) (w:World):∃b,(Builtin.holdsCells a n).run P w=.ok b w:=by
 unfold Builtin.holdsCells
 rw [Sem.run_bind,run_shape,Result.andThen_ok]
 cases w.shape? a.block with
 | none=>exact ⟨_,rfl⟩
 | some x=>exact ⟨_,rfl⟩
theorem xQ (a:Addr) (n:Nat):ze (Builtin.holdsCells a n):=by
 unfold Builtin.holdsCells
 refine ze.bind (fun _=>trivial) fun x=>?_
 first
  | exact trivial
  | (split <;> exact trivial)
theorem Yy (size sLen n:Nat) (base:Option Addr) (x:Value):ze (Builtin.mayShare size sLen n base x):=by
 unfold Builtin.mayShare
 have tail:∀(there:Bool),ze (if !there then (Pure.pure true:Sem Bool) else match x with
  | .slice (some b) _ _=>do Pure.pure (!(← Builtin.holdsCells b (n * size)) || base.any (·.block == b.block))
  | _=>Pure.pure false):=fun there=>by
  split
  ·exact trivial
  ·split
   ·exact ze.bind (xQ _ _) fun _=>trivial
   ·exact trivial
 cases base with
 | none=>exact tail true
 | some a =>
   dsimp only
   refine ze.bind (xQ _ _) fun b=>?_
   refine ze.bind ?_ fun c=>tail _
   first
    | exact fun _=>trivial
    | exact trivial
theorem Je (size sLen n:Nat) (base:Option Addr) (x:Value) (P:Program) (w:World):∃b,(Builtin.mayShare size sLen n base x).run P w=.ok b w:=by
 unfold Builtin.mayShare
 have tail:∀(there:Bool),∃b,(if !there then (Pure.pure true:Sem Bool) else match x with
  | .slice (some b) _ _=>do Pure.pure (!(← Builtin.holdsCells b (n * size)) || base.any (·.block == b.block))
  | _=>Pure.pure false).run P w=.ok b w:=fun there=>by
  split
  ·exact ⟨_,rfl⟩
  ·split
   ·obtain ⟨b,hb⟩:=jM ‹Addr› (n * size) P w
    rw [Sem.run_bind,hb]
    exact ⟨_,rfl⟩
   ·exact ⟨_,rfl⟩
 cases base with
 | none=>exact tail true
 | some a =>
   dsimp only
   obtain ⟨b,hb⟩:=jM a (sLen * size) P w
   rw [Sem.run_bind,hb,Result.andThen_ok,Sem.run_bind,run_frozen,Result.andThen_ok]
   exact tail _
theorem qg.append (S:Same P' P) (ts:Array TypeId) (t:TypeId) (ha:appB P ts=true) {xs xs':Array Value} (h:AR K.C R xs xs'):qg K P' P R (Builtin.append_ ts t xs) (Builtin.append_ ts t xs') (fun R1 x y=>VR K.C R1 x y):=by
 unfold Builtin.append_
 cases e1:ts[0]? with
 | none=>exact .stuck
 | some u =>
 cases e2:xs[0]? with
 | none=>exact .stuck
 | some v =>
 cases e4:xs[1]? with
 | none=>exact .stuck
 | some x =>
 obtain ⟨v',e3,hv⟩:=h.get e2
 obtain ⟨x',e5,hx⟩:=h.get e4
 rw [e3,e5]
 dsimp only
 refine (qg.underlying S u).bind fun R1 d d' h1 e=>?_
 obtain ⟨rfl,_⟩:=e
 cases d' <;> first
  | exact .stuck
  | skip
 rename_i el
 dsimp only
 cases e6:ts[1]? with
 | none=>simp only [appB,e6] at ha;exact absurd ha (by simp)
 | some xt =>
 simp only [appB,e6] at ha
 replace hv:=hv.mono h1
 replace hx:=hx.mono h1
 have hs:=hv
 cases hv <;> first
  | exact .stuck
  | skip
 all_goals
  dsimp only
  refine (qg.sizeOf S _).bind fun R2 s s' h2 e=>?_
  subst e
  refine (qg.underlying S xt).bind fun R3 d d' h3 e=>?_
  obtain ⟨rfl,hd⟩:=e
  rw [hd] at ha
  refine qg.bind (Q:=fun _ a b=>a=false∧b=false) (.pure (by cases d' <;> first | (simp at ha;done) | exact ⟨rfl,rfl⟩)) fun R4 z z' h4 e=>?_
  obtain ⟨rfl,rfl⟩:=e
  simp only [Bool.false_eq_true,if_false,false_or,Bool.not_false,if_true]
  refine (qg.lenOf (((hx.mono h2).mono h3).mono h4)).bind fun R5 n n' h5 e=>?_
  obtain ⟨rfl,hn0⟩:=e
  have hx5:=(((hx.mono h2).mono h3).mono h4).mono h5
  have hs5:=(((hs.mono h2).mono h3).mono h4).mono h5
  split
  ·first
    | exact (qg.firstCells s' n' hn0 hx5).bind fun R6 c c' h6 hc=>.pure (.snil _ _)
    | (refine (qg.firstCells s' n' hn0 hx5).bind fun R6 c c' h6 hc=>?_
       have ha6:=((((‹qF R1 _ _›.mono h2).mono h3).mono h4).mono h5).mono h6
       exact (qg.storeCells _ _ 0 (ha6.add _) hc.toList.1 hc.toList.2).bind fun R7 _ _ h7 _=>.pure (.slice _ _ (ha6.mono h7)))
    | (obtain rfl:n'=0:=by omega
       refine (qg.firstCells0 s' hx5).bind fun R6 c c' h6 hc=>?_
       obtain ⟨rfl,rfl⟩:=hc
       refine qg.bind (Q:=fun _ _ _=>True) ?_ fun _ _ _ _ _=>.pure (.zcap _)
       exact .pure trivial)
  ·refine (qg.typeInfo S _).bind fun R6 i i' h6 e=>?_
   obtain ⟨rfl,_⟩:=e
   split
   ·exact qg.panicked
   ·refine (qg.typeInfo S _).bind fun R7 i i' h7 e=>?_
    obtain ⟨rfl,_⟩:=e
    split
    ·refine qg.lost (fun P w=>?_) (by
      rw [bind_assoc]
      refine ze.bind (Yy _ _ _ _ _) fun b=>?_
      split <;> exact trivial)
     obtain ⟨b,hb⟩:=Je s' _ n' _ x P w
     rw [Sem.run_bind,Sem.run_bind,hb]
     simp only [Result.andThen_ok]
     split
     ·exact ⟨_,w,rfl,.refl w rfl⟩
     ·exact ⟨_,w,rfl,.refl w rfl⟩
    ·refine (qg.choose _).bind fun R8 nc nc' h8 e=>?_
     subst e
     refine (qg.typeInfo S _).bind fun R9 i i' h9 e=>?_
     obtain ⟨rfl,_⟩:=e
     refine (qg.askRoom _).bind fun R10 _ _ h10 _=>?_
     have hx10:=((((hx5.mono h6).mono h7).mono h8).mono h9).mono h10
     have hs10:=((((hs5.mono h6).mono h7).mono h8).mono h9).mono h10
     refine (qg.firstCells s' _ (fun a e=>by cases e <;> rfl) hs10).bind fun R11 c c' h11 hc=>?_
     refine (qg.firstCells s' n' hn0 (hx10.mono h11)).bind fun R12 f f' h12 hf=>?_
     refine (qg.zeroValue S _).bind fun R13 z z' h13 e=>?_
     refine (qg.newRow _ (((hc.mono h12).mono h13).append (hf.mono h13) |>.append (e.2.cells.zeroCells _))).bind fun R14 a a' _ ha=>?_
     exact .pure (.slice _ _ ha)
end
inductive NextR (K:Cfg) (R:Nat→Nat→Prop):Next→Next→Prop
 | value {v v':Value}:VR K.C R v v'→NextR K R (.value v) (.value v')
 | skip:NextR K R .skip .skip
 | enter (f:FuncId) {xs xs':Array Value}:K.C f→AR K.C R xs xs'→NextR K R (.enter f xs) (.enter f xs')
 | round {l l':Nat} (f:FuncId) {ts ts':Array Value} (a b:Code):R l l'→AR K.C R ts ts'→K.D f a→K.D f b→NextR K R (.round l f ts a b) (.round l' f ts' a b)
structure Progs (K:Cfg) (P' P:Program):Prop extends Same P' P where
 ng:K.ng=P.globals.size
 call:∀f,K.C f→∃fn' fn,P'.funcs[f]? = some fn'∧P.funcs[f]? = some fn∧(fn'.name == "runtime.NumGoroutine")=false∧(fn.name == "runtime.NumGoroutine")=false∧fn'.body.isNone=false∧fn.body.isNone=false
def zg (c g:Nat→Bool):Operand→Bool
 | .tmp _=>true
 | .const v=>zw 8 v
 | .global n=>g n
 | .func f=>c f
def mapB (P:Program) (t:TypeId):Bool:=match P.underlying t with | some (.map k _)=>eqT P 6 k | _=>false
def callB (P:Program) (c g:Nat→Bool) (k:Call):Bool :=
 k.args.all (zg c g) && match k.callee with
 | .value f=>zg c g f
 | .builtin .len | .builtin .min | .builtin .max | .builtin .clear=>true
 | .builtin .append=>appB P k.argTypes
 | _=>false
def opB (P:Program) (c g:Nat→Bool):Op→Bool
 | .move x | .assign x | .box _ x | .load _ x | .unOp _ _ x | .extract x _ | .field _ x _=>zg c g x
 | .pick x a b=>zg c g x && zg c g a && zg c g b
 | .alloc _=>true
 | .build _ ps | .buildSlice _ _ ps=>ps.all fun p=>zg c g p.2
 | .store _ a v | .indexAddr _ a v | .index _ a v | .makeSlice _ a v=>zg c g a && zg c g v
 | .binOp op t x y _=>zg c g x && zg c g y && (yQ op || ((op matches .eql | .neq) && cmpB P t y))
 | .convert s d x=>convB P s d && zg c g x
 | .makeFunc fn xs ys=>(match fn with | .func f=>c f | _=>false) && xs.all (zg c g) && ys.all (zg c g)
 | .makeMap _ none=>true
 | .slice _ x l h m=>zg c g x && l.all (zg c g) && h.all (zg c g) && m.all (zg c g)
 | .fieldAddr s x i=>qde P s i && zg c g x
 | .lookup t x i _=>mapB P t && zg c g x && zg c g i
 | .mapUpdate t m k x=>mapB P t && zg c g m && zg c g k && zg c g x
 | .insert t m k x=>mapB P t && zg c g m && zg c g k && zg c g x
 | .nilCheck x=>zg c g x
 | .call k=>callB P c g k
 | _=>false
section
variable {K:Cfg} {P' P:Program} {R:Nat→Nat→Prop}
theorem qg.v {s s':Sem Value} (h:qg K P' P R s s' (fun R1 x y=>VR K.C R1 x y)):qg K P' P R (do Pure.pure (Next.value (← s))) (do Pure.pure (Next.value (← s'))) (fun R1 x y=>NextR K R1 x y) :=
 h.bind fun _ _ _ _ e=>.pure (.value e)
theorem qg.u {s s':Sem Unit} (h:qg K P' P R s s' (fun _ _ _=>True)):qg K P' P R (do s;Pure.pure Next.skip) (do s';Pure.pure Next.skip) (fun R1 x y=>NextR K R1 x y) :=
 h.bind fun _ _ _ _ _=>.pure .skip
theorem xV.u {s s':Sem Unit} (h:xV K P' P R s s' (fun _ _ _=>True)):xV K P' P R (do s;Pure.pure Next.skip) (do s';Pure.pure Next.skip) (fun R1 x y=>NextR K R1 x y) :=
 h.pure (f:=fun _=>Next.skip) (f':=fun _=>Next.skip) fun _ _ _ _ _=>.skip
theorem qg.max2 {x x' y y':Value} (hx:VR K.C R x x') (hy:VR K.C R y y'):qg K P' P R (Builtin.max2 x y) (Builtin.max2 x' y') (fun R1 a b=>VR K.C R1 a b):=by
 cases hx <;> cases hy <;> first
  | exact .stuck
  | exact .unsupported
  | exact .pure (.int _ _)
  | (unfold Builtin.max2
     refine (qg.strBin .geq _ _ 0).bind fun R1 a b h e=>?_
     refine (qg.asBool e).bind fun R2 c d h2 e=>?_
     subst e
     split <;> exact .pure (.string _))
theorem qg.min2 {x x' y y':Value} (hx:VR K.C R x x') (hy:VR K.C R y y'):qg K P' P R (Builtin.min2 x y) (Builtin.min2 x' y') (fun R1 a b=>VR K.C R1 a b):=by
 cases hx <;> cases hy <;> first
  | exact .stuck
  | exact .unsupported
  | exact .pure (.int _ _)
  | (unfold Builtin.min2
     refine (qg.strBin .leq _ _ 0).bind fun R1 a b h e=>?_
     refine (qg.asBool e).bind fun R2 c d h2 e=>?_
     subst e
     split <;> exact .pure (.string _))
theorem qg.foldM {f:Value→Value→Sem Value} (hf:∀{R:Nat→Nat→Prop} {x x' y y':Value},VR K.C R x x'→VR K.C R y y'→qg K P' P R (f x y) (f x' y') (fun R1 a b=>VR K.C R1 a b)) :
 ∀(l l':List Value) {R:Nat→Nat→Prop} {x x':Value},l.length=l'.length→(∀(n:Nat) (x x':Value),l[n]? = some x→l'[n]? = some x'→VR K.C R x x')→VR K.C R x x'→qg K P' P R (l.foldlM f x) (l'.foldlM f x') (fun R1 a b=>VR K.C R1 a b)
 | [],[],_,_,_,_,_,h=>.pure h
 | [],_ :: _,_,_,_,h,_,_=>by simp at h
 | _ :: _,[],_,_,_,h,_,_=>by simp at h
 | a :: l,a' :: l',_,_,_,h,he,hx=>by
   simp only [List.foldlM_cons]
   exact (hf hx (he 0 a a' rfl rfl)).bind fun R1 y y' h1 hy=>qg.foldM hf l l' (by simpa using h) (fun n x x' p q=>(he (n+1) x x' (by simpa using p) (by simpa using q)).mono h1) hy
theorem qg.minmax (f:Value→Value→Sem Value) (m:String) (hf:∀{R:Nat→Nat→Prop} {x x' y y':Value},VR K.C R x x'→VR K.C R y y'→qg K P' P R (f x y) (f x' y') (fun R1 a b=>VR K.C R1 a b)) {xs xs':Array Value} (h:AR K.C R xs xs') :
 qg K P' P R (match xs.toList with | []=>Go.stuck m | x :: rest=>rest.foldlM f x) (match xs'.toList with | []=>Go.stuck m | x :: rest=>rest.foldlM f x) (fun R1 a b=>VR K.C R1 a b):=by
 obtain ⟨h1,h2⟩:=h.toList
 revert h1 h2
 generalize xs.toList=l
 generalize xs'.toList=l'
 intro h1 h2
 cases l with
 | nil=>exact .stuck
 | cons a l=>cases l' with
   | nil=>simp at h1
   | cons a' l'=>exact qg.foldM hf l l' (by simpa using h1) (fun n x x' p q=>h2 (n+1) x x' (by simpa using p) (by simpa using q)) (h2 0 a a' rfl rfl)
theorem qg.callFunc (Z:Progs K P' P) (f:FuncId) (hf:K.C f) {xs xs':Array Value} (h:AR K.C R xs xs'):qg K P' P R (Go.callFunc f xs) (Go.callFunc f xs') (fun R1 x y=>NextR K R1 x y):=by
 unfold Go.callFunc
 refine qg.program ?_
 obtain ⟨fn',fn,e1,e2,n1,n2,b1,b2⟩:=Z.call f hf
 simp only [e1,e2,n1,n2,b1,b2,Bool.false_eq_true,if_false]
 exact .pure (.enter f hf h)
theorem qg.getLoop {l l':Nat} (h:R l l'):qg K P' P R (Instr.getLoop l) (Instr.getLoop l') (fun R1 x y=>LoopR K.C K.D R1 x y):=by
 unfold Instr.getLoop
 refine (qg.getObj h).bind fun R1 o o' h1 ho=>?_
 obtain ⟨ho,_⟩:=ho
 cases ho <;> first
  | exact .stuck
  | exact .pure (by assumption)
theorem qeZ {C:FuncId→Prop}:∀(ps:List Nat) (l l':List Value) {ts ts':Array Value},l.length=l'.length→(∀(n:Nat) (x x':Value),l[n]? = some x→l'[n]? = some x'→VR C R x x')→AR C R ts ts' →
 AR C R ((ps.zip l).foldl (fun (t:Array Value) (p:Nat×Value)=>t.setIfInBounds p.1 p.2) ts) ((ps.zip l').foldl (fun (t:Array Value) (p:Nat×Value)=>t.setIfInBounds p.1 p.2) ts')
 | [],_,_,_,_,_,_,h=>by simpa using h
 | p :: ps,[],[],_,_,_,_,h=>by simpa using h
 | p :: ps,[],_ :: _,_,_,h,_,_=>by simp at h
 | p :: ps,_ :: _,[],_,_,h,_,_=>by simp at h
 | p :: ps,a :: l,a' :: l',_,_,h,he,ht=>by
   simp only [List.zip_cons_cons,List.foldl_cons]
   exact qeZ ps l l' (by simpa using h) (fun n x x' p q=>he (n+1) x x' (by simpa using p) (by simpa using q)) (ht.set _ (he 0 a a' rfl rfl))
theorem qg.yld {l l':Nat} (h:R l l') {xs xs':Array Value} (hx:AR K.C R xs xs'):qg K P' P R (Instr.yield l xs) (Instr.yield l' xs') (fun R1 x y=>NextR K R1 x y):=by
 unfold Instr.yield
 refine (qg.getLoop h).bind fun R1 r r' h1 hr=>?_
 rw [hx.size,hr.params,hr.fn,hr.assign,hr.body]
 split
 ·exact qg.halted
 ·refine .pure (.round _ _ _ (h1 _ _ h) ?_ hr.okA hr.okB)
  rw [← Array.foldl_toList,← Array.foldl_toList,Array.toList_zip,Array.toList_zip]
  obtain ⟨e1,e2⟩:=(hx.mono h1).toList
  exact qeZ _ _ _ e1 e2 hr.tmps
theorem qg.invokeValue (Z:Progs K P' P) {v v':Value} (hv:VR K.C R v v') {xs xs':Array Value} (hx:AR K.C R xs xs') :
 qg K P' P R (do let d ← Deferred.ofValue v xs;Go.invoke d.target d.args) (do let d ← Deferred.ofValue v' xs';Go.invoke d.target d.args) (fun R1 x y=>NextR K R1 x y):=by
 cases hv with
 | func f hf s1 e1 s2 e2 =>
   rename_i fs fs' cs cs'
   have h1:AR K.C R fs fs':=⟨s1,e1⟩
   have h2:AR K.C R cs cs':=⟨s2,e2⟩
   show qg K P' P R (Go.callFunc f (fs ++ xs ++ cs)) (Go.callFunc f (fs' ++ xs' ++ cs')) _
   exact qg.callFunc Z f hf ((h1.append hx).append h2)
 | yld hl =>
   rename_i l l'
   show qg K P' P R (Instr.yield l (#[] ++ xs)) (Instr.yield l' (#[] ++ xs')) _
   exact qg.yld hl (AR.nil.append hx)
 | nilFunc=>exact qg.runtimePanic (e:=.nilDeref) (α:=Next)
 | meth n a b =>
   have e:(do let d ← Deferred.ofValue (.func (.method "") #[.nilIface] #[]) xs;Go.invoke d.target d.args)=Go.runtimePanic .nilDeref:=by
    show Go.invoke (.fn (.method "") #[]) (#[.nilIface] ++ xs)=_
    have h0:(#[Value.nilIface] ++ xs)[0]? = some .nilIface:=by simp [Array.getElem?_append]
    simp only [Go.invoke,h0,Go.callMethod]
   rw [e]
   exact qg.runtimePanic
 | _=>exact .stuck
theorem qg.nilCheck {ρ ρ':Operand→Value} {o:Oper} {x:Operand} (ho:o.op=.nilCheck x) (hx:VR K.C R (ρ x) (ρ' x)):qg K P' P R (Go.execOp ρ o) (Go.execOp ρ' o) (fun R1 x y=>NextR K R1 x y):=by
 unfold Go.execOp
 rw [ho]
 dsimp only
 generalize ρ x=v at hx
 generalize ρ' x=v' at hx
 have hx0:=hx
 cases hx with
 | pnil=>exact .runtimePanic
 | nilIface=>exact .runtimePanic
 | nilFunc=>exact .runtimePanic
 | meth n a b=>exact .runtimePanic
 | junk h =>
   cases v' with
   | pointer a=>cases a with
     | none=>simp [xy] at h
     | some a=>exact .pure (.value hx0)
   | func f a b=>cases f <;> first | (exact .pure (.value hx0)) | (simp [xy] at h;done)
   | _=>first | (exact .pure (.value hx0)) | (simp [xy] at h;done)
 | _=>exact .pure (.value hx0)
theorem qg.clear (S:Same P' P) (ts:Array TypeId) (t:TypeId) {xs xs':Array Value} (hx:AR K.C R xs xs'):qg K P' P R (Builtin.clear_ ts t xs) (Builtin.clear_ ts t xs') (fun R1 x y=>VR K.C R1 x y):=by
 unfold Builtin.clear_
 cases e0:ts[0]? with
 | none=>exact .stuck
 | some t0 =>
   cases e1:xs[0]? with
   | none=>exact .stuck
   | some x =>
     obtain ⟨x',e2,hv⟩:=hx.get e1
     rw [e2]
     dsimp only
     refine (qg.underlying S t0).bind fun R1 d d' h1 e=>?_
     obtain ⟨rfl,_⟩:=e
     replace hv:=hv.mono h1
     cases hv with
     | mnil=>exact .pure VR.undef
     | snil l c=>exact .pure VR.undef
     | zcap a=>exact .pure VR.undef
     | map hr =>
       refine (qg.getObj hr).bind fun R2 o o' h2 e=>?_
       obtain ⟨ho,hn⟩:=e
       cases ho with
       | map k hs he=>exact (qg.setObj (h2 _ _ hr) (OR.map (es:=#[]) (es':=#[]) k rfl fun i e e' x=>by simp at x) fun x e f hx=>by cases hx).bind fun _ _ _ _ _=>.pure VR.undef
       | _=>exact .halted
     | slice l c ha =>
       cases l with
       | zero=>exact .pure VR.undef
       | succ l =>
         cases d' with
         | slice el =>
           refine (qg.zeroValue S el).bind fun R2 z z' h2 e=>?_
           have hz:=e.2.cells.zeroCells (l+1)
           refine (qg.storeCells _ _ 0 (ha.mono h2) ?_ ?_).bind fun _ _ _ _ _=>.pure VR.undef
           ·simpa using hz.size
           ·intro n x x' h h'
            exact hz.el n x x' (by simpa using h) (by simpa using h')
         | _=>exact .halted
     | _=>exact .halted
theorem qg.builtin (S:Same P' P) (b:Builtin) (ts:Array TypeId) (t:TypeId) (cs:Array Bool) (hb:(b=.len∨b=.min∨b=.max∨b=.clear)∨(b=.append∧appB P ts=true)) {xs xs':Array Value} (hx:AR K.C R xs xs') :
 qg K P' P R (Go.builtin b ts t cs xs) (Go.builtin b ts t cs xs') (fun R1 x y=>NextR K R1 x y):=by
 rcases hb with (rfl | rfl | rfl | rfl) | ⟨rfl,ha⟩
 ·exact (qg.len S ts t hx).v
 ·exact qg.v (by unfold Builtin.min_;exact qg.minmax _ _ (fun h k=>qg.min2 h k) hx)
 ·exact qg.v (by unfold Builtin.max_;exact qg.minmax _ _ (fun h k=>qg.max2 h k) hx)
 ·exact (qg.clear S ts t hx).v
 ·exact (qg.append S ts t ha hx).v
theorem all_opnd {c g:Nat→Bool} {xs:Array Operand} (h:xs.all (zg c g)=true):∀x∈xs,zg c g x=true:=by
 rw [Array.all_eq_true'] at h
 exact h
theorem qg.execOp (Z:Progs K P' P) {c g:Nat→Bool} (hc:∀f,c f=true→K.C f) {ρ ρ':Operand→Value} (o:Oper) (ho:opB P c g o.op=true)
 (hρ:∀{R1:Nat→Nat→Prop},(∀b d,R b d→R1 b d)→∀x,zg c g x=true→VR K.C R1 (ρ x) (ρ' x)) (hk:∀v,ρ (.const v)=v) :
 xV K P' P R (Go.execOp ρ o) (Go.execOp ρ' o) (fun R1 x y=>NextR K R1 x y):=by
 by_cases hnc:∃x,o.op=.nilCheck x
 ·obtain ⟨x,hnc⟩:=hnc
  refine qg.l (qg.nilCheck hnc (hρ (fun _ _ h=>h) x ?_))
  rw [hnc] at ho
  exact ho
 by_cases hin:∃t m k x,o.op=.insert t m k x
 ·obtain ⟨t,m,k,x,hmu⟩:=hin
  have hr:∀x,zg c g x=true→VR K.C R (ρ x) (ρ' x):=hρ fun _ _ h=>h
  rw [hmu] at ho
  simp only [opB,Bool.and_eq_true] at ho
  unfold Go.execOp
  rw [hmu]
  dsimp only
  obtain ⟨⟨⟨h1,h2⟩,h3⟩,h4⟩:=ho
  unfold mapB at h1
  split at h1
  ·rename_i k' e hd
   exact (qg.mapUpdate Z.toSame Z.ng (kt:=k') (fun k'' e' hk'=>by rw [hd] at hk';cases hk';rfl) h1 (hr _ h2) (hr _ h3) (hr _ h4)).u
  ·cases h1
 by_cases hmu:∃t m k x,o.op=.mapUpdate t m k x
 ·obtain ⟨t,m,k,x,hmu⟩:=hmu
  have hr:∀x,zg c g x=true→VR K.C R (ρ x) (ρ' x):=hρ fun _ _ h=>h
  rw [hmu] at ho
  simp only [opB,Bool.and_eq_true] at ho
  unfold Go.execOp
  rw [hmu]
  dsimp only
  obtain ⟨⟨⟨h1,h2⟩,h3⟩,h4⟩:=ho
  unfold mapB at h1
  split at h1
  ·rename_i k' e hd
   exact (qg.mapUpdate Z.toSame Z.ng (kt:=k') (fun k'' e' hk'=>by rw [hd] at hk';cases hk';rfl) h1 (hr _ h2) (hr _ h3) (hr _ h4)).u
  ·cases h1
 refine qg.l ?_
 have S:=Z.toSame
 have hr:∀x,zg c g x=true→VR K.C R (ρ x) (ρ' x):=hρ fun _ _ h=>h
 have all:∀xs:Array Operand,xs.all (zg c g)=true→AR K.C R (xs.map ρ) (xs.map ρ'):=fun xs h=>AR.map xs fun x hx=>hr x (all_opnd h x hx)
 have opt:∀x:Option Operand,x.all (zg c g)=true→OVR K.C R (x.map ρ) (x.map ρ'):=fun x h=>by
  cases x with
  | none=>exact .inl ⟨rfl,rfl⟩
  | some x=>exact .inr ⟨_,_,rfl,rfl,hr x (by simpa using h)⟩
 have parts:∀ps:Array (Nat×Operand),(ps.all fun p=>zg c g p.2)=true→PartsR K.C R (ps.map fun x=>(x.1,ρ x.2)).toList (ps.map fun x=>(x.1,ρ' x.2)).toList:=fun ps h=>by
  rw [Array.toList_map,Array.toList_map]
  refine PartsR.map _ fun x hx=>hr x.2 ?_
  rw [Array.all_eq_true'] at h
  exact h x (by simpa using hx)
 obtain ⟨dst,op,ty,pos,after,guard⟩:=o
 simp only at ho
 cases op <;> simp only [opB,Bool.and_eq_true] at ho <;> first
  | (cases ho;done)
  | (unfold Go.execOp;dsimp only;first
      | exact .pure (.value (hr _ ho))
      | exact (qg.alloc S _).v
      | exact (qg.box _ (hr _ ho)).v
      | exact (qg.build S _ (parts _ ho)).v
      | exact (qg.buildSlice S _ _ (parts _ ho)).v
      | exact (qg.loadAt S _ (hr _ ho)).v
      | exact (qg.storeAt S _ (hr _ ho.1) (hr _ ho.2)).u
      | exact (qg.unary _ (hr _ ho)).v
      | exact (qg.convert S _ _ ho.1 (hr _ ho.2)).v
      | exact (qg.makeSlice S _ (hr _ ho.1) (hr _ ho.2)).v
      | exact (qg.sliceAt S _ (hr _ ho.1.1.1) (opt _ ho.1.1.2) (opt _ ho.1.2) (opt _ ho.2)).v
      | exact (qg.fieldAt S _ _ ho.1 (hr _ ho.2)).v
      | exact (qg.indexAt S _ (hr _ ho.1) (hr _ ho.2)).v
      | exact (qg.index S _ (hr _ ho.1) (hr _ ho.2)).v
      | exact (qg.extract _ (hr _ ho)).v
      | exact (qg.field S _ _ (hr _ ho)).v
      | skip)
 case pick x a b =>
  refine (qg.asBool (hr _ ho.1.1)).bind fun R1 u v h e=>?_
  subst e
  refine .pure (.value ?_)
  split
  ·exact (hr _ ho.1.2).mono h
  ·exact (hr _ ho.2).mono h
 case binOp op t x y yt =>
  obtain ⟨⟨h1,h2⟩,h3⟩:=ho
  refine qg.v ?_
  rw [Bool.or_eq_true] at h3
  rcases h3 with h3 | h3
  ·refine qg.bind (Q:=fun _ _ _=>True) ?_ fun R1 _ _ h _=>qg.arith S Z.ng op t h3 (hρ h _ h1) (hρ h _ h2)
   unfold Go.eqGuard
   cases op <;> first
    | (simp [yQ] at h3;done)
    | exact qg.pure trivial
  ·rw [Bool.and_eq_true] at h3
   have hop:op=.eql∨op=.neq:=by
    cases op <;> first
     | exact .inl rfl
     | exact .inr rfl
     | (simp at h3;done)
   exact (qg.eqGuard S op t x y h3.2 (hr _ h1) (hr _ h2)).bind fun R1 _ _ h _=>qg.cmp S Z.ng op hop t y h3.2 (hρ h _ h1) (hρ h _ h2) (fun v e=>by rw [e,hk])
 case makeFunc fn xs ys =>
  refine qg.v ?_
  unfold Instr.makeFunc
  cases fn <;> first
   | (simp at ho;done)
   | exact .pure (AR.func (hc _ ho.1.1) (all _ ho.1.2) (all _ ho.2))
 case makeMap t r =>
  cases r with
  | none=>exact (qg.makeMap t).v
  | some r=>simp at ho
 case lookup t x i ok =>
  refine qg.v ?_
  obtain ⟨⟨h1,h2⟩,h3⟩:=ho
  unfold mapB at h1
  split at h1
  ·rename_i k e hd
   exact qg.lookup S Z.ng (kt:=k) (fun k' e' hk'=>by rw [hd] at hk';cases hk';rfl) h1 (hr _ h2) (hr _ h3) ok
  ·cases h1
 case mapUpdate t m k x=>exact absurd ⟨t,m,k,x,rfl⟩ hmu
 case call k =>
  obtain ⟨callee,args,ats⟩:=k
  simp only [callB,Bool.and_eq_true] at ho
  obtain ⟨h1,h2⟩:=ho
  have ha:=all _ h1
  unfold Go.resolve
  cases callee with
  | value f=>exact qg.invokeValue Z (hr _ h2) ha
  | invoke r n=>simp at h2
  | builtin b =>
    show qg K P' P R (Go.builtin b _ _ _ _) (Go.builtin b _ _ _ _) _
    refine qg.builtin S b _ _ _ ?_ ha
    cases b <;> first
     | (simp at h2;done)
     | exact .inl (.inl rfl)
     | exact .inl (.inr (.inl rfl))
     | exact .inl (.inr (.inr (.inl rfl)))
     | exact .inl (.inr (.inr (.inr rfl)))
     | exact .inr ⟨rfl,h2⟩
 case insert t m k x=>exact absurd ⟨t,m,k,x,rfl⟩ hin
 case nilCheck x=>exact absurd ⟨x,rfl⟩ hnc
end
def zz (P:Program) (c g:Nat→Bool):Code→Bool
 | .skip | .label _ | .exit _ | .ret=>true
 | .region _ ops _=>ops.all fun o=>opB P c g o.op
 | .seq a b=>zz P c g a && zz P c g b
 | .cond x a b=>zg c g x && zz P c g a && zz P c g b
 | .block _ b | .loop b | .scope b=>zz P c g b
 | .rangeFunc f _ a b=>zg c g f && zz P c g a && zz P c g b
 | _=>false
def Std (P' P:Program) (f:FuncId):Prop:=∃fn,P'.funcs[f]? = some fn∧P.funcs[f]? = some fn∧P'.inits.idxOf? f=none
structure Cov (K:Cfg) (P' P:Program) (c g:Nat→Bool) (Sp:FuncId→Prop):Prop extends Progs K P' P where
 hc:∀f,c f=true→K.C f
 hD:∀f x,K.D f x↔(Std P' P f∧zz P c g x=true)
 body:∀f,K.C f→¬ Sp f→∃fn x,P'.funcs[f]? = some fn∧P.funcs[f]? = some fn∧fn.body=some x∧K.D f x
inductive ItemR (K:Cfg) (f:FuncId) (R:Nat→Nat→Prop):Item→Item→Prop
 | code (c:Code):K.D f c→ItemR K f R (.code c) (.code c)
 | inBlock (id:Nat):ItemR K f R (.inBlock id) (.inBlock id)
 | inLoop (b:Code):K.D f b→ItemR K f R (.inLoop b) (.inLoop b)
 | inScope (b:Code):ItemR K f R (.inScope b) (.inScope b)
 | inRegion (id:Nat) (ops:Array Oper) (todo:List Nat):K.D f (.region id ops false)→ItemR K f R (.inRegion ops todo) (.inRegion ops todo)
 | inRange {l l':Nat}:R l l'→ItemR K f R (.inRangeFunc l) (.inRangeFunc l')
 | endRange {l l':Nat}:R l l'→ItemR K f R (.endRangeFunc l) (.endRangeFunc l')
 | beginRound:ItemR K f R .beginRound .beginRound
inductive ItemsR (K:Cfg) (f:FuncId) (R:Nat→Nat→Prop):List Item→List Item→Prop
 | nil:ItemsR K f R [] []
 | cons {i i':Item} {k k':List Item}:ItemR K f R i i'→ItemsR K f R k k'→ItemsR K f R (i :: k) (i' :: k')
structure FR (K:Cfg) (P' P:Program) (R:Nat→Nat→Prop) (fr fr':Frame):Prop where
 fn:fr'.fn=fr.fn
 std:Std P' P fr.fn
 tmps:AR K.C R fr.tmps fr'.tmps
 todo:ItemsR K fr.fn R fr.todo fr'.todo
 defers:DsR K.C R fr.defers fr'.defers
 mode:(fr.mode=.run∧fr'.mode=.run)∨(fr.mode=.returning∧fr'.mode=.returning)
 kind:fr.kind=.normal
 kind':fr'.kind=.normal
 round:(fr.roundOf=none∧fr'.roundOf=none)∨∃l l',fr.roundOf=some l∧fr'.roundOf=some l'∧R l l'
def c0:Frame:={ fn:=0,tmps:=#[],todo:=[.code (.refuse "")],defers:=[{ target:=.nil,args:=#[] }],mode:=.run,kind:=.normal }
def DOk (d:Deferred):Prop:=∃r,d=⟨.collected r,#[]⟩
inductive BadK:List Frame→Prop
 | base:BadK [c0]
 | cons {a:Frame} {k:List Frame}:(∀d∈a.defers,DOk d)→BadK k→BadK (a :: k)
structure Bs where
 src:List Frame
 tgt:List Frame
 bad:BadK src
def Bs.lone (l:List Frame):Bs:=⟨[c0],l,.base⟩
inductive FsR (K:Cfg) (P' P:Program) (bs:Bs) (R:Nat→Nat→Prop):List Frame→List Frame→Prop
 | one {a a':Frame}:FR K P' P R a a'→a.roundOf=none→FsR K P' P bs R (a :: bs.src) (a' :: bs.tgt)
 | cons {a a':Frame} {k k':List Frame}:FR K P' P R a a'→FsR K P' P bs R k k'→FsR K P' P bs R (a :: k) (a' :: k')
inductive KR (K:Cfg) (P' P:Program) (bs:Bs) (R:Nat→Nat→Prop) (ro:Option Nat):List Frame→List Frame→Prop
 | base:ro=none→KR K P' P bs R ro bs.src bs.tgt
 | over {k k':List Frame}:FsR K P' P bs R k k'→KR K P' P bs R ro k k'
inductive GR (K:Cfg) (P' P:Program) (bs:Bs) (R:Nat→Nat→Prop):Goroutine→Goroutine→Prop
 | mk {a a':Frame} {k k':List Frame}:FR K P' P R a a'→KR K P' P bs R a.roundOf k k' →
    GR K P' P bs R { frame:=a,callers:=k,status:=.running,dying:=none } { frame:=a',callers:=k',status:=.running,dying:=none }
def xI (K:Cfg) (P' P:Program) (Sp:FuncId→Prop) (bs:Bs) (R:Nat→Nat→Prop) (g g':Goroutine):Prop :=
 ∃f xs xs' k k',Sp f∧AR K.C R xs xs'∧FsR K P' P bs R k k' ∧
  g={ frame:=Frame.enter P' f xs .normal,callers:=k,status:=.running,dying:=none }∧g'={ frame:=Frame.enter P f xs' .normal,callers:=k',status:=.running,dying:=none }
def zZ (l:List Frame) (g:Goroutine):Prop:=g.frame.mode=.returning∧g.frame.defers=[]∧g.callers=l
def Leaves (g:Goroutine):Prop:=g.frame.mode=.returning∧g.frame.defers=[]∧g.callers=[c0]
inductive Bad:Goroutine→Prop
 | up {a:Frame} {k:List Frame} (ch:List PanicEntry):a.mode=.panicking ch→(∀d∈a.defers,DOk d)→BadK k→Bad { frame:=a,callers:=k,status:=.running,dying:=none }
 | bottom {a:Frame} (ch:List PanicEntry):a.mode=.panicking ch→a.defers=c0.defers→Bad { frame:=a,callers:=[],status:=.running,dying:=none }
theorem Bad.notLeaves {g:Goroutine} (h:Bad g):¬ Leaves g:=by
 rintro ⟨h1,_,_⟩
 cases h with
 | up ch e _ _=>simp only at h1;rw [e] at h1;cases h1
 | bottom ch e _=>simp only at h1;rw [e] at h1;cases h1
theorem raise_mode (a:Frame) (vs:List PanicEntry):∃ch,(a.raise vs).mode=.panicking ch:=by
 unfold Frame.raise
 split <;> exact ⟨_,rfl⟩
theorem xn (a:Frame) (vs:List PanicEntry):(a.raise vs).defers=a.defers:=by
 unfold Frame.raise
 split <;> rfl
theorem Bad.step {P:Program} {m:Bool} {g g1:Goroutine} {w w1:World} {es:Array Event} (h:Bad g) (hn:yE w) (hs:stepG P m g w=.go g1 w1 es):Bad g1∧yE w1:=by
 cases h with
 | @bottom a ch hm hd =>
   obtain ⟨fn,tmps,todo,defers,mode,kind,ro⟩:=a
   simp only at hm hd
   subst hm hd
   simp [stepG,unwind,callDeferred,c0] at hs
 | @up a k ch hm hd hk =>
   obtain ⟨fn,tmps,todo,defers,mode,kind,ro⟩:=a
   simp only at hm hd
   subst hm
   cases defers with
   | cons d ds =>
     obtain ⟨r,rfl⟩:=hd d (by simp)
     simp only [stepG,unwind,Sem.runT_eq] at hs
     cases e:(Instr.takeDeferred r).run P w with
     | halt x y=>rw [e] at hs;cases hs
     | ok calls w2 =>
       rw [e] at hs
       simp only [GStep.after,GStep.go.injEq] at hs
       obtain ⟨rfl,rfl,_⟩:=hs
       unfold Instr.takeDeferred at e
       rw [Sem.run_bind] at e
       cases e2:(Go.getObj r).run P w with
       | halt x y=>rw [e2] at e;cases e
       | ok o w3 =>
         obtain ⟨rfl,h1,_⟩:=Qw e2
         rw [e2] at e
         simp only [Result.andThen_ok] at e
         split at e
         ·rename_i ds' _
          rw [Sem.run_bind] at e
          have h0:ds'=[]:=hn r _ h1
          subst h0
          unfold Go.setObj at e
          simp only [Sem.run,h1,Result.andThen_ok,Sem.run_pure,Result.ok.injEq] at e
          obtain ⟨rfl,rfl⟩:=e
          refine ⟨.up ch rfl (fun x hx=>hd x (by simp at hx;simp [hx])) hk,fun i x hx=>?_⟩
          simp only [Array.getElem?_setIfInBounds] at hx
          split at hx
          ·first
            | (cases hx;done)
            | (split at hx <;> cases hx)
          ·exact hn i x hx
         ·cases e
   | nil =>
     simp only [stepG,unwind] at hs
     split at hs
     ·cases hs
     ·cases hk with
      | base =>
        simp only [GStep.go.injEq] at hs
        obtain ⟨rfl,rfl,_⟩:=hs
        obtain ⟨ch',e⟩:=raise_mode c0 ch
        exact ⟨.bottom ch' e (xn _ _),hn⟩
      | @cons b k' hb hk =>
        simp only [GStep.go.injEq] at hs
        obtain ⟨rfl,rfl,_⟩:=hs
        obtain ⟨ch',e⟩:=raise_mode b ch
        exact ⟨.up ch' e (by rw [xn];exact hb) hk,hn⟩
section
variable {K:Cfg} {P' P:Program} {R R1:Nat→Nat→Prop} {f:FuncId}
theorem ItemR.mono (h:∀b c,R b c→R1 b c) {i i':Item} (x:ItemR K f R i i'):ItemR K f R1 i i':=by
 cases x with
 | code c d=>exact .code c d
 | inBlock id=>exact .inBlock id
 | inLoop b d=>exact .inLoop b d
 | inScope b=>exact .inScope b
 | inRegion id ops t d=>exact .inRegion id ops t d
 | inRange r=>exact .inRange (h _ _ r)
 | endRange r=>exact .endRange (h _ _ r)
 | beginRound=>exact .beginRound
theorem ItemsR.mono (h:∀b c,R b c→R1 b c) {i i':List Item} (x:ItemsR K f R i i'):ItemsR K f R1 i i':=by
 induction x with
 | nil=>exact .nil
 | cons a _ ih=>exact .cons (a.mono h) ih
theorem FR.mono (h:∀b c,R b c→R1 b c) {a a':Frame} (x:FR K P' P R a a'):FR K P' P R1 a a' :=
 ⟨x.fn,x.std,x.tmps.mono h,x.todo.mono h,x.defers.mono h,x.mode,x.kind,x.kind',x.round.imp id fun ⟨l,l',a,b,c⟩=>⟨l,l',a,b,h _ _ c⟩⟩
theorem FsR.mono {bs:Bs} (h:∀b c,R b c→R1 b c) {a a':List Frame} (x:FsR K P' P bs R a a'):FsR K P' P bs R1 a a':=by
 induction x with
 | one a b=>exact .one (a.mono h) b
 | cons a _ ih=>exact .cons (a.mono h) ih
theorem KR.mono {bs:Bs} {ro:Option Nat} (h:∀b c,R b c→R1 b c) {a a':List Frame} (x:KR K P' P bs R ro a a'):KR K P' P bs R1 ro a a':=by
 cases x with
 | base e=>exact .base e
 | over k=>exact .over (k.mono h)
theorem GR.push {bs:Bs} {a a':Frame} {k k':List Frame} (x:FR K P' P R a a') (y:KR K P' P bs R a.roundOf k k'):FsR K P' P bs R (a :: k) (a' :: k'):=by
 cases y with
 | base e=>exact .one x e
 | over k=>exact .cons x k
theorem GR.pop {bs:Bs} {a a' b b':Frame} {k k':List Frame} (y:FsR K P' P bs R (a :: k) (a' :: k')) (x:FR K P' P R b b') (e:b.roundOf=a.roundOf):KR K P' P bs R b.roundOf k k':=by
 cases y with
 | one _ h=>exact .base (e.trans h)
 | cons _ h=>exact .over h
theorem DsR.ok {C:FuncId→Prop} {ds ds':List Deferred} (h:DsR C R ds ds'):∀d∈ds,DOk d:=by
 induction h with
 | nil=>intro d hd;simp at hd
 | cons a _ ih =>
   intro d hd
   simp only [List.mem_cons] at hd
   rcases hd with rfl | hd
   ·cases a with | collected r=>exact ⟨_,rfl⟩
   ·exact ih d hd
theorem FsR.bad {bs:Bs} {k k':List Frame} (h:FsR K P' P bs R k k'):BadK k:=by
 induction h with
 | one a _=>exact .cons a.defers.ok bs.bad
 | cons a _ ih=>exact .cons a.defers.ok ih
theorem KR.bad {bs:Bs} {k k':List Frame} {ro:Option Nat} (h:KR K P' P bs R ro k k'):BadK k:=by
 cases h with
 | base _=>exact bs.bad
 | over h=>exact h.bad
theorem FR.eval {c g:Nat→Bool} {a a':Frame} (hc:∀f,c f=true→K.C f) (hg:∀n,g n=true→R n n) (x:FR K P' P R a a') (h:∀b c,R b c→R1 b c) (o:Operand) (ho:zg c g o=true):VR K.C R1 (a.eval o) (a'.eval o):=by
 cases o with
 | tmp t=>exact (x.tmps.mono h).getD t VR.undef
 | const v=>exact VR.plain 8 v ho
 | global n=>exact .ptr ⟨h _ _ (hg n ho),rfl,rfl⟩
 | func f=>exact AR.func (hc f ho) .nil .nil
theorem FR.finish {a a':Frame} {v v':Value} (x:FR K P' P R a a') (hv:VR K.C R v v'):FR K P' P R (a.finish v) (a'.finish v'):=by
 obtain ⟨fn,tmps,todo,defers,mode,kind,ro⟩:=a
 obtain ⟨fn',tmps',todo',defers',mode',kind',ro'⟩:=a'
 obtain ⟨h1,h2,h3,h4,h5,h6,h7,h8,h9⟩:=x
 simp only at h1 h2 h3 h4 h5 h6 h7 h8 h9
 cases h4 with
 | nil=>exact ⟨h1,h2,h3,.nil,h5,h6,h7,h8,h9⟩
 | cons hi hk =>
   cases hi with
   | code c d=>exact ⟨h1,h2,h3,.cons (.code c d) hk,h5,h6,h7,h8,h9⟩
   | inBlock id=>exact ⟨h1,h2,h3,.cons (.inBlock id) hk,h5,h6,h7,h8,h9⟩
   | inLoop b d=>exact ⟨h1,h2,h3,.cons (.inLoop b d) hk,h5,h6,h7,h8,h9⟩
   | inScope b=>exact ⟨h1,h2,h3,.cons (.inScope b) hk,h5,h6,h7,h8,h9⟩
   | inRegion id ops t d =>
     cases t with
     | nil=>exact ⟨h1,h2,h3,.cons (.inRegion id ops [] d) hk,h5,h6,h7,h8,h9⟩
     | cons i rest =>
       refine ⟨h1,h2,?_,.cons (.inRegion id ops rest d) hk,h5,h6,h7,h8,h9⟩
       simp only [Frame.finish]
       split
       ·exact h3.set _ hv
       ·exact h3
   | inRange r=>exact ⟨h1,h2,h3,.cons (.endRange r) hk,h5,h6,h7,h8,h9⟩
   | endRange r=>exact ⟨h1,h2,h3,.cons (.endRange r) hk,h5,h6,h7,h8,h9⟩
   | beginRound=>exact ⟨h1,h2,h3,hk,h5,h6,h7,h8,h9⟩
theorem FR.yielded {a a':Frame} (x:FR K P' P R a a') (ops:Array Oper) (j:Nat):Go.yielded ops a'.tmps j=Go.yielded ops a.tmps j:=by
 unfold Go.yielded
 cases (ops[j]?).bind (·.dst) with
 | none=>rfl
 | some d =>
   simp only [Option.bind_some]
   cases e:a.tmps[d]? with
   | none=>rw [x.tmps.get_none e]
   | some v =>
     obtain ⟨v',e',hv⟩:=x.tmps.get e
     rw [e']
     cases hv <;> first | rfl | (cases v' <;> first | rfl | (simp_all [xy];done))
theorem ItemsR.exitTo (id:Nat) {k k' j:List Item} (x:ItemsR K f R k k') (h:Go.exitTo id k=some j):∃j',Go.exitTo id k'=some j'∧ItemsR K f R j j':=by
 induction x with
 | nil=>cases h
 | cons hi hk ih =>
   cases hi <;> unfold Go.exitTo at h ⊢ <;> first
    | exact ih h
    | (split at h
       ·rename_i e;cases h;rw [if_pos e];exact ⟨_,rfl,hk⟩
       ·rename_i e;rw [if_neg e];exact ih h)
theorem ItemsR.exitTo_none (id:Nat) {k k':List Item} (x:ItemsR K f R k k') (h:Go.exitTo id k=none):Go.exitTo id k'=none:=by
 induction x with
 | nil=>rfl
 | cons hi hk ih =>
   cases hi <;> unfold Go.exitTo at h ⊢ <;> first
    | exact ih h
    | (split at h
       ·cases h
       ·rename_i e;rw [if_neg e];exact ih h)
end
section
variable {K:Cfg} {P' P:Program} {R:Nat→Nat→Prop} {Sp:FuncId→Prop} {c g:Nat→Bool} {bs:Bs}
def jI (K:Cfg) (P' P:Program) (Sp:FuncId→Prop) (bs:Bs) (R:Nat→Nat→Prop) (w w':World) (g1:Goroutine) (w1:World) (s':GStep):Prop :=
 yE w1∧(Bad g1∨∃R1 g1' w1' es',s'=.go g1' w1' es'∧(GR K P' P bs R1 g1 g1'∨xI K P' P Sp bs R1 g1 g1')∧WR K R1 w1 w1'∧Ext K R R1 w w' w1 w1'∧yY K R1 es')
theorem yY.seen {P:Program} {f:FuncId} {es:Array Event} (h:yY K R es):yY K R (Go.seen P f es):=fun e he=>h e (Go.Conc.mem_seen he)
theorem jI.still {w w':World} (hn:yE w) (hw:WR K R w w') {a a':Frame} {k k':List Frame} (ha:FR K P' P R a a') (hk:KR K P' P bs R a.roundOf k k') :
 jI K P' P Sp bs R w w' { frame:=a,callers:=k,status:=.running,dying:=none } w (.go { frame:=a',callers:=k',status:=.running,dying:=none } w' #[]) :=
 ⟨hn,.inr ⟨R,_,_,_,rfl,.inl (.mk ha hk),hw,.refl _ _,yY.nil⟩⟩
theorem qg.mapMVals {γ:Type} (l:List γ) {f f':γ→Sem Value} {R:Nat→Nat→Prop} (h:∀(R1:Nat→Nat→Prop),(∀b c,R b c→R1 b c)→∀x∈l,qg K P' P R1 (f x) (f' x) (fun R2 a b=>VR K.C R2 a b)) :
 qg K P' P R (l.mapM f) (l.mapM f') (fun R2 a b=>AR K.C R2 a.toArray b.toArray):=by
 induction l generalizing R with
 | nil=>simp only [List.mapM_nil];exact .pure .nil
 | cons x l ih =>
   simp only [List.mapM_cons]
   refine (h R (fun _ _ h=>h) x (by simp)).bind fun R1 a b hR e=>?_
   refine (ih fun R2 h2 y hy=>h R2 (fun _ _ k=>h2 _ _ (hR _ _ k)) y (by simp [hy])).bind fun R2 c d h2 e2=>.pure ?_
   have:=(AR.one (e.mono h2)).append e2
   simpa using this
theorem qg.results (S:Same P' P) (fn:Func) {ts ts':Array Value} (h:AR K.C R ts ts'):qg K P' P R (Go.results fn ts) (Go.results fn ts') (fun R1 x y=>VR K.C R1 x y):=by
 unfold Go.results
 rw [Array.mapM_eq_mapM_toList,Array.mapM_eq_mapM_toList]
 rw [map_eq_pure_bind,map_eq_pure_bind]
 simp only [bind_assoc,pure_bind]
 refine (qg.mapMVals fn.results.toList (fun R1 hR x _=>?_)).bind fun R1 a b hR e=>?_
 ·cases x with
  | tmp t=>exact .pure ((h.mono hR).getD t VR.undef)
  | cell a t=>exact (qg.asAddr ((h.mono hR).getD a VR.undef)).bind fun R2 u v _ hu=>qg.loadVar S t hu
 ·refine .pure ?_
  have hs:=e.size
  by_cases h1:a.toArray.size=1
  ·have h2:b.toArray.size=1:=hs▸h1
   rw [dif_pos h1,dif_pos h2]
   exact e.el 0 _ _ (by simp) (by simp)
  ·have h2:¬ b.toArray.size=1:=hs▸h1
   rw [dif_neg h1,dif_neg h2]
   exact e.tuple
theorem yH (a:Frame) (v:Value):(a.finish v).roundOf=a.roundOf:=by
 unfold Frame.finish
 split <;> rfl
theorem FR.enter (Z:Cov K P' P c g Sp) {f:FuncId} {xs xs':Array Value} (hf:K.C f) (hs:¬ Sp f) (hx:AR K.C R xs xs'):FR K P' P R (Frame.enter P' f xs .normal) (Frame.enter P f xs' .normal):=by
 obtain ⟨fn,x,e1,e2,hb,hd⟩:=Z.body f hf hs
 have hstd:=((Z.hD f x).1 hd).1
 unfold Frame.enter
 simp only [e1,e2,Option.map_some,Option.getD_some,Option.bind_some,hb]
 refine ⟨rfl,hstd,?_,.cons (.code x hd) .nil,.nil,.inl ⟨rfl,rfl⟩,rfl,rfl,.inl ⟨rfl,rfl⟩⟩
 rw [hx.size]
 exact hx.append (AR.replicate _ VR.undef)
theorem FR.round' (Z:Cov K P' P c g Sp) {f:FuncId} {l l':Nat} {ts ts':Array Value} {x y:Code} (hl:R l l') (ht:AR K.C R ts ts') (hx:K.D f x) (hy:K.D f y):FR K P' P R (Frame.round l f ts x y .normal) (Frame.round l' f ts' x y .normal) :=
 ⟨rfl,((Z.hD f x).1 hx).1,ht,.cons (.code x hx) (.cons .beginRound (.cons (.code y hy) .nil)),.nil,.inl ⟨rfl,rfl⟩,rfl,rfl,.inr ⟨l,l',rfl,rfl,hl⟩⟩
theorem jI.bad {w w' w1:World} {a:Frame} {k k':List Frame} {ch:List PanicEntry} (hn:yE w1) {a':Frame} (ha:FR K P' P R a a') (hk:KR K P' P bs R a.roundOf k k') (s:GStep) :
 jI K P' P Sp bs R w w' { frame:=a.raise ch,callers:=k,status:=.running,dying:=none } w1 s:=by
 refine ⟨hn,.inl ?_⟩
 obtain ⟨ch',e⟩:=raise_mode a ch
 exact .up ch' e (by rw [xn];exact ha.defers.ok) hk.bad
theorem qaM {f:FuncId} {k k':List Item} (h:ItemsR K f R k k'):stepG.apply.match_1 (fun _=>CallKind) k (fun _ _ _ _=>.wrapped) (fun _=>.normal)=.normal∧stepG.apply.match_1 (fun _=>CallKind) k' (fun _ _ _ _=>.wrapped) (fun _=>.normal)=.normal:=by
 cases h with
 | nil=>exact ⟨rfl,rfl⟩
 | cons hi _=>cases hi <;> exact ⟨rfl,rfl⟩
theorem zl {es es':Array Event} {s:GStep} {g1:Goroutine} {w1:World} (h:GStep.after es s=.go g1 w1 es'):∃e,s=.go g1 w1 e:=by
 cases s <;> simp only [GStep.after,GStep.go.injEq,reduceCtorEq] at h
 obtain ⟨rfl,rfl,_⟩:=h
 exact ⟨_,rfl⟩
theorem ZV {p:Program} {fr:Frame} {cs:List Frame} {d:Option Dying} {m:String} {w w1:World} {g1:Goroutine} {es:Array Event} (h:endFatal p fr cs d m w=.go g1 w1 es):w.drawn≤w1.drawn:=by
 unfold endFatal at h
 dsimp only at h
 split at h
 ·rename_i e
  simp only [dieOf,GStep.go.injEq] at h
  obtain ⟨_,rfl,_⟩:=h
  exact zb p _ e
 ·cases h
 ·cases h
theorem ZU {p:Program} {fr:Frame} {cs:List Frame} {d:Option Dying} {q:Nat} {w w1:World} {g1:Goroutine} {es:Array Event} (h:early p fr cs d q w=.go g1 w1 es):w.drawn≤w1.drawn:=by
 unfold early at h
 dsimp only at h
 have fin:∀{w2:World},w.drawn≤w2.drawn→w2.drawn=w1.drawn→w.drawn≤w1.drawn:=fun a b=>b▸a
 repeat' (first | (cases h;done) | (split at h))
 all_goals (simp only [GStep.go.injEq] at h;obtain ⟨_,h,_⟩:=h;subst h)
 all_goals first
  | exact Nat.le_refl _
  | (have hh:=zb p (choose (.early q)) (by assumption);exact hh)
theorem QE (Z:Cov K P' P c g Sp) {w w':World} (hn:yE w) (hw:WR K R w w') {a a':Frame} {k k':List Frame} (ha:FR K P' P R a a') (hk:KR K P' P bs R a.roundOf k k')
 {s s':Sem Next} (h:xV K P' P R s s' (fun R1 x y=>NextR K R1 x y)) {g1:Goroutine} {w1:World} {es:Array Event}
 (hs:stepG.apply P' true a k none s w=.go g1 w1 es) (hd0:w1.drawn=K.lim):jI K P' P Sp bs R w w' g1 w1 (stepG.apply P true a' k' none s' w'):=by
 have hd:=Nat.le_of_eq hd0
 have hkind:∀x:Frame,x.kind=.normal→(x.kind == CallKind.early)=false:=fun x e=>by rw [e];rfl
 unfold stepG.apply at hs ⊢
 simp only [Sem.runT_eq,if_true] at hs ⊢
 have hcall:stepG.apply.match_1 (fun _=>CallKind) a.todo (fun _ _ _ _=>.wrapped) (fun _=>.normal)=.normal:=(qaM ha.todo).1
 have hcall':stepG.apply.match_1 (fun _=>CallKind) a'.todo (fun _ _ _ _=>.wrapped) (fun _=>.normal)=.normal:=(qaM ha.todo).2
 rw [hcall] at hs
 rw [hcall']
 rw [hkind a ha.kind] at hs
 rw [hkind a' ha.kind']
 cases e:s.run P' w with
 | halt x y =>
   rw [e] at hs
   have kh:=fun hd=>(h w w' hw).2.1 x y e hd
   cases x with
   | panic v =>
     simp only [GStep.after,GStep.go.injEq] at hs
     obtain ⟨rfl,rfl,_⟩:=hs
     exact .bad ((kh hd).1 hn) ha hk _
   | stuck m=>cases hs
   | unsupported u =>
     cases u with
     | initOrder q =>
       obtain ⟨_,hs⟩:=zl hs
       have hy:y.drawn≤w1.drawn:=ZU hs
       exact absurd (kh (Nat.le_trans hy hd)).2 (by simp [yZ])
     | _=>cases hs
   | _ =>
     obtain ⟨_,hs⟩:=zl hs
     first
      | (cases hs;done)
      | (simp only [endThrow,dieOf,GStep.go.injEq] at hs
         obtain ⟨_,rfl,_⟩:=hs
         exact absurd (kh hd).2 (by simp [yZ]))
      | exact absurd (kh (Nat.le_trans (ZV hs) hd)).2 (by simp [yZ])
 | ok n w2 =>
   rw [e] at hs
   obtain ⟨R1,b,w1',e1,hw1,hx,hv,hq,hkd⟩:=(h w w' hw).1 n w2 e (by
    obtain ⟨_,hs⟩:=zl hs
    have hw2:w1=w2:=by
     cases n <;> (try dsimp only at hs) <;> repeat' (first | (cases hs;done) | (split at hs))
     all_goals first
      | (simp only [GStep.go.injEq] at hs;exact hs.2.1.symm)
      | (simp only [endThrow,dieOf,GStep.go.injEq] at hs;exact hs.2.1.symm)
    exact hw2▸hd0)
   rw [e1]
   cases hq with
   | value hv2 =>
     simp only [GStep.after,GStep.go.injEq] at hs
     obtain ⟨rfl,rfl,_⟩:=hs
     refine ⟨hkd hn,.inr ⟨R1,_,_,_,rfl,.inl (.mk ((ha.mono hx.le).finish hv2) ?_),hw1,hx,?_⟩⟩
     ·rw [yH];exact hk.mono hx.le
     ·simpa using yY.seen hv
   | skip =>
     simp only [GStep.after,GStep.go.injEq] at hs
     obtain ⟨rfl,rfl,_⟩:=hs
     refine ⟨hkd hn,.inr ⟨R1,_,_,_,rfl,.inl (.mk ((ha.mono hx.le).finish VR.undef) ?_),hw1,hx,?_⟩⟩
     ·rw [yH];exact hk.mono hx.le
     ·simpa using yY.seen hv
   | enter f hf hxs =>
     simp only [GStep.after,GStep.go.injEq] at hs
     obtain ⟨rfl,rfl,_⟩:=hs
     have hp:=GR.push (ha.mono hx.le) (hk.mono hx.le)
     refine ⟨hkd hn,.inr ⟨R1,_,_,_,rfl,?_,hw1,hx,by simpa using yY.seen hv⟩⟩
     by_cases hf2:Sp f
     ·exact .inr ⟨f,_,_,_,_,hf2,hxs,hp,rfl,rfl⟩
     ·exact .inl (.mk (FR.enter Z hf hf2 hxs) (.over hp))
   | round f x y hl ht hdx hdy =>
     simp only [GStep.after,GStep.go.injEq] at hs
     obtain ⟨rfl,rfl,_⟩:=hs
     have hp:=GR.push (ha.mono hx.le) (hk.mono hx.le)
     exact ⟨hkd hn,.inr ⟨R1,_,_,_,rfl,.inl (.mk (FR.round' Z hl ht hdx hdy) (.over hp)),hw1,hx,by simpa using yY.seen hv⟩⟩
end
section
variable {K:Cfg} {P' P:Program} {R:Nat→Nat→Prop} {Sp:FuncId→Prop} {c g:Nat→Bool} {bs:Bs}
theorem qg.enterLoop {f:FuncId} {ts ts':Array Value} (ht:AR K.C R ts ts') (ps:Array Tmp) {a b:Code} (ha:K.D f a) (hb:K.D f b) {ro ro':Option Nat} (hr:(ro=none∧ro'=none)∨∃l l',ro=some l∧ro'=some l'∧R l l') :
 qg K P' P R (Instr.enterLoop f ts ps a b ro) (Instr.enterLoop f ts' ps a b ro') (fun R1 x y=>R1 x.1 y.1∧DsR K.C R1 x.2 y.2):=by
 have key:∀{R1:Nat→Nat→Prop},(∀b c,R b c→R1 b c)→∀{d d':Nat} {ms ms':List Deferred},R1 d d'→DsR K.C R1 ms ms' →
  qg K P' P R1 (do Pure.pure (← Go.newObj (.loop { state:=.ready,pending:=none,fn:=f,tmps:=ts,params:=ps,assign:=a,body:=b,defers:=d }),ms))
   (do Pure.pure (← Go.newObj (.loop { state:=.ready,pending:=none,fn:=f,tmps:=ts',params:=ps,assign:=a,body:=b,defers:=d' }),ms')) (fun R1 x y=>R1 x.1 y.1∧DsR K.C R1 x.2 y.2):=by
  intro R1 hR d d' ms ms' hd hm
  have ho:OR K.C K.D R1 (.loop { state:=.ready,pending:=none,fn:=f,tmps:=ts,params:=ps,assign:=a,body:=b,defers:=d }) (.loop { state:=.ready,pending:=none,fn:=f,tmps:=ts',params:=ps,assign:=a,body:=b,defers:=d' }) :=
   .loop ⟨rfl,rfl,rfl,ht.mono hR,rfl,rfl,rfl,hd,ha,hb,fun x e=>by cases e⟩
  exact (qg.newObj ho).bind fun R2 r r' h2 hr=>.pure ⟨hr,hm.mono h2⟩
 unfold Instr.enterLoop
 rcases hr with ⟨rfl,rfl⟩ | ⟨l,l',rfl,rfl,hl⟩
 ·dsimp only
  refine (qg.newObj .deferred).bind fun R1 r r' hR hr=>?_
  exact key hR hr (.cons (.collected hr) .nil)
 ·dsimp only
  exact (qg.getLoop hl).bind fun R1 r r' hR hr=>key hR hr.defers .nil
theorem qg.beginRound {l l':Nat} (h:R l l'):qg K P' P R (Instr.beginRound l) (Instr.beginRound l') (fun _ _ _=>True):=by
 unfold Instr.beginRound
 refine (qg.getLoop h).bind fun R1 r r' hR hr=>?_
 refine qg.bind (qg.setObj (hR _ _ h) (.loop ⟨rfl,hr.pending,hr.fn,hr.tmps,hr.params,hr.assign,hr.body,hr.defers,hr.okA,hr.okB,hr.okP⟩) (fun _ _ _ e=>by cases e)) fun R2 _ _ _ _=>?_
 rw [hr.state]
 cases r.state <;> first
  | exact .pure trivial
  | exact .runtimePanic
theorem qg.endRound {l l':Nat} (h:R l l') (j:Option Code) (hj:∀(f:FuncId) x y,j=some x→K.D f y→K.D f x):qg K P' P R (Instr.endRound l j) (Instr.endRound l' j) (fun R1 x y=>VR K.C R1 x y):=by
 unfold Instr.endRound
 refine (qg.getLoop h).bind fun R1 r r' hR hr=>?_
 refine qg.bind (qg.setObj (hR _ _ h) (.loop ⟨rfl,rfl,hr.fn,hr.tmps,hr.params,hr.assign,hr.body,hr.defers,hr.okA,hr.okB,fun x e=>hj _ x _ e hr.okA⟩) (fun _ _ _ e=>by cases e)) fun R2 _ _ _ _=>?_
 exact .pure (.bool _)
theorem qg.endLoop (Z:Cov K P' P c g Sp) {l l':Nat} (h:R l l'):qg K P' P R (Instr.endLoop l) (Instr.endLoop l') (fun _ x y=>y=x∧∀z,x=some z→zz P c g z=true):=by
 unfold Instr.endLoop
 refine (qg.getLoop h).bind fun R1 r r' hR hr=>?_
 rw [hr.state]
 split
 ·exact qg.panicked
 ·refine qg.bind (qg.setObj (hR _ _ h) (.loop ⟨rfl,hr.pending,hr.fn,hr.tmps,hr.params,hr.assign,hr.body,hr.defers,hr.okA,hr.okB,hr.okP⟩) (fun _ _ _ e=>by cases e)) fun R2 _ _ _ _=>?_
  exact .pure ⟨hr.pending,fun z e=>((Z.hD _ _).1 (hr.okP z e)).2⟩
theorem qg.takeDeferred {r r':Nat} (h:R r r'):qg K P' P R (Instr.takeDeferred r) (Instr.takeDeferred r') (fun _ x y=>x=[]∧y=[]):=by
 unfold Instr.takeDeferred
 refine (qg.getObj h).bind fun R1 o o' hR ho=>?_
 obtain ⟨ho,_⟩:=ho
 cases ho <;> first
  | exact .stuck
  | (refine qg.bind (qg.setObj (hR _ _ h) .taken (fun _ _ _ e=>by cases e)) fun R2 _ _ _ _=>?_
     exact .pure ⟨rfl,rfl⟩)
theorem jI.after {R1:Nat→Nat→Prop} {w w' wa wa' w1:World} {g1:Goroutine} {s':GStep} {es:Array Event} (hx:Ext K R R1 w w' wa wa') (hv:yY K R1 es) (h:jI K P' P Sp bs R1 wa wa' g1 w1 s') :
 jI K P' P Sp bs R w w' g1 w1 (GStep.after es s'):=by
 obtain ⟨hn,h⟩:=h
 refine ⟨hn,h.imp id ?_⟩
 rintro ⟨R2,g1',w1',es',rfl,hg,hw,hx2,hv2⟩
 exact ⟨R2,g1',w1',_,rfl,hg,hw,hx.trans hx2,(hv.mono hx2.le).append hv2⟩
theorem FsR.head {a a':Frame} {k k':List Frame} (h:FsR K P' P bs R (a :: k) (a' :: k')):FR K P' P R a a':=by
 cases h with
 | one h _=>exact h
 | cons h _=>exact h
theorem Yn {w w':World} (hn:yE w) (hw:WR K R w w') {a a':Frame} {k k':List Frame} (h1:a.kind=.normal) (h2:a'.kind=.normal) (hk:FsR K P' P bs R k k') {v v':Value} (hv:VR K.C R v v') {m m':Bool}
 {g1:Goroutine} {w1:World} {es:Array Event} (hs:doReturn P' m a k none v w=.go g1 w1 es):jI K P' P Sp bs R w w' g1 w1 (doReturn P m' a' k' none v' w'):=by
 have key:∀{b b':Frame} {r r':List Frame},FsR K P' P bs R (b :: r) (b' :: r')→doReturn P' m a (b :: r) none v w=.go g1 w1 es→jI K P' P Sp bs R w w' g1 w1 (doReturn P m' a' (b' :: r') none v' w'):=by
  intro b b' r r' hk hs
  unfold doReturn at hs ⊢
  simp only [h1,h2,GStep.go.injEq] at hs ⊢
  obtain ⟨rfl,rfl,_⟩:=hs
  have hb:=hk.head.finish hv
  exact .still hn hw hb (GR.pop hk hb (yH _ _))
 cases hk with
 | one x y=>exact key (.one x y) hs
 | cons x y=>exact key (.cons x y) hs
theorem jP {p:Program} {a:Frame} {k:List Frame} {s:Sem Next} {w w1:World} {g1:Goroutine} {es:Array Event} (hs:stepG.apply p true a k none s w=.go g1 w1 es):(s.run p w).w.drawn≤w1.drawn:=by
 unfold stepG.apply at hs
 simp only [Sem.runT_eq,if_true] at hs
 obtain ⟨_,hs⟩:=zl hs
 cases e:s.run p w with
 | halt x y =>
   rw [e] at hs
   show y.drawn≤w1.drawn
   cases x <;> (try dsimp only at hs) <;> first
    | (cases hs;done)
    | (simp only [GStep.go.injEq] at hs;obtain ⟨_,h,_⟩:=hs;rw [h];exact Nat.le_refl _)
    | (simp only [endThrow,dieOf,GStep.go.injEq] at hs;obtain ⟨_,h,_⟩:=hs;rw [h];exact Nat.le_refl _)
    | exact ZV hs
    | (rename_i u;cases u <;> first
        | (cases hs;done)
        | exact ZU hs)
 | ok n w2 =>
   rw [e] at hs
   have hw2:w1=w2:=by
    cases n <;> (try dsimp only at hs) <;> repeat' (first | (cases hs;done) | (split at hs))
    all_goals first
     | (simp only [GStep.go.injEq] at hs;exact hs.2.1.symm)
     | (simp only [endThrow,dieOf,GStep.go.injEq] at hs;exact hs.2.1.symm)
   rw [hw2]
   exact Nat.le_refl _
end
section
variable {K:Cfg} {P' P:Program} {R:Nat→Nat→Prop} {Sp:FuncId→Prop} {c g:Nat→Bool} {bs:Bs}
theorem xC {α β:Type} {s:Sem α} {s':Sem β} {Q:(Nat→Nat→Prop)→α→β→Prop} {w w':World} (hw:WR K R w w') (hn:yE w) (h:qg K P' P R s s' Q) {a:α} {wa:World} (e:s.run P' w=.ok a wa) (hd:wa.drawn≤K.lim) :
 ∃R1 b wa',s'.run P w'=.ok b wa'∧WR K R1 wa wa'∧Ext K R R1 w w' wa wa'∧yY K R1 (s'.events P w' #[])∧Q R1 a b∧yE wa:=by
 obtain ⟨R1,b,wa',h1,h2,h3,h4,h5,h6⟩:=(h w w' hw).1 a wa e hd
 exact ⟨R1,b,wa',h1,h2,h3,h4,h5,h6 hn⟩
theorem QS (Z:Cov K P' P c g Sp) {w w':World} (hn:yE w) (hw:WR K R w w') {fn:FuncId} {ts ts':Array Value} {td td':List Item} {ds ds':List Deferred} {l l':Nat} {k k':List Frame}
 (hl:R l l') (hk:KR K P' P bs R (some l) k k') (j:Option Code) (hj:∀x,j=some x→zz P c g x=true) {m m':Bool} {s s':String} {g1:Goroutine} {w1:World} {es:Array Event}
 (hs:(GStep.after (seen P' fn ((Instr.endRound l j).events P' w #[])) (match (Instr.endRound l j).run P' w with
    | .ok v w=>doReturn P' m { fn,tmps:=ts,todo:=td,defers:=ds,mode:=.run,kind:=.normal,roundOf:=some l } k none v w
    | .halt _ w=>.ended (.stuck "range over a function: no such loop" s) w))=.go g1 w1 es) (hd0:w1.drawn=K.lim) :
 jI K P' P Sp bs R w w' g1 w1 (GStep.after (seen P fn ((Instr.endRound l' j).events P w' #[])) (match (Instr.endRound l' j).run P w' with
     | .ok v w=>doReturn P m' { fn,tmps:=ts',todo:=td',defers:=ds',mode:=.run,kind:=.normal,roundOf:=some l' } k' none v w
     | .halt _ w=>.ended (.stuck "range over a function: no such loop" s') w)):=by
 have hd:=Nat.le_of_eq hd0
 obtain ⟨_,hs⟩:=zl hs
 cases e:(Instr.endRound l j).run P' w with
 | halt x y=>rw [e] at hs;cases hs
 | ok v wa =>
   rw [e] at hs
   dsimp only at hs
   cases hk with
   | base h=>cases h
   | over hk =>
     have hwa:wa.drawn≤K.lim:=by
      refine Nat.le_trans (Nat.le_of_eq ?_) hd
      unfold doReturn at hs
      cases hk <;> (simp only [GStep.go.injEq] at hs;rw [hs.2.1])
     obtain ⟨R1,b,wa',h1,h2,h3,h4,h5,h6⟩:=xC hw hn (qg.endRound (K:=K) (P':=P') (P:=P) hl j fun f x y ej hy=>(Z.hD f x).2 ⟨((Z.hD f y).1 hy).1,hj x ej⟩) e hwa
     rw [h1]
     exact .after h3 (yY.seen h4) (Yn h6 h2 rfl rfl (hk.mono h3.le) h5 hs)
theorem qcZ (Z:Cov K P' P c g Sp) {w w':World} (hn:yE w) (hw:WR K R w w') {a a':Frame} {k k':List Frame} (ha:FR K P' P R a a') (hk:KR K P' P bs R a.roundOf k k') (hm:a.mode=.run) (hg:∀n,g n=true→R n n) {m m':Bool} {g1:Goroutine} {w1:World} {es:Array Event}
 (hs:stepG.exec P' m true a k none w=.go g1 w1 es) (hd0:w1.drawn=K.lim):jI K P' P Sp bs R w w' g1 w1 (stepG.exec P m' true a' k' none w'):=by
 have hd:=Nat.le_of_eq hd0
 obtain ⟨fn,ts,td,ds,mode,kind,ro⟩:=a
 obtain ⟨fn',ts',td',ds',mode',kind',ro'⟩:=a'
 have ha':=ha
 obtain ⟨h1,h2,h3,h4,h5,h6,h7,h8,h9⟩:=ha
 simp only at h1 h2 h3 h4 h5 h6 h7 h8 h9 hk hm
 subst h1 hm h7 h8
 have h6:mode'=.run:=by rcases h6 with ⟨_,h⟩ | ⟨h,_⟩;exact h;cases h
 subst h6
 have go:∀{j j':List Item},ItemsR K fn' R j j'→jI K P' P Sp bs R w w' { frame:={ fn:=fn',tmps:=ts,todo:=j,defers:=ds,mode:=.run,kind:=.normal,roundOf:=ro },callers:=k,status:=.running,dying:=none } w
  (.go { frame:={ fn:=fn',tmps:=ts',todo:=j',defers:=ds',mode:=.run,kind:=.normal,roundOf:=ro' },callers:=k',status:=.running,dying:=none } w' #[]) :=
  fun hj=>.still hn hw ⟨rfl,h2,h3,hj,h5,.inl ⟨rfl,rfl⟩,rfl,rfl,h9⟩ hk
 have ret:jI K P' P Sp bs R w w' { frame:={ fn:=fn',tmps:=ts,todo:=td,defers:=ds,mode:=.returning,kind:=.normal,roundOf:=ro },callers:=k,status:=.running,dying:=none } w
  (.go { frame:={ fn:=fn',tmps:=ts',todo:=td',defers:=ds',mode:=.returning,kind:=.normal,roundOf:=ro' },callers:=k',status:=.running,dying:=none } w' #[]) :=
  .still hn hw ⟨rfl,h2,h3,h4,h5,.inr ⟨rfl,rfl⟩,rfl,rfl,h9⟩ hk
 have dc:∀{x:Code},K.D fn' x→zz P c g x=true:=fun h=>((Z.hD _ _).1 h).2
 have cd:∀{x:Code},zz P c g x=true→K.D fn' x:=fun h=>(Z.hD _ _).2 ⟨h2,h⟩
 have ro9:∀{R1:Nat→Nat→Prop},(∀b c,R b c→R1 b c)→(ro=none∧ro'=none)∨∃l l',ro=some l∧ro'=some l'∧R1 l l':=fun h=>h9.imp (fun x=>x) fun ⟨l,l',p,q,r⟩=>⟨l,l',p,q,h _ _ r⟩
 unfold stepG.exec at hs ⊢
 cases h4 with
 | nil =>
   rcases h9 with ⟨rfl,rfl⟩ | ⟨l,l',rfl,rfl,hl⟩
   ·simp only [GStep.go.injEq,if_true] at hs ⊢
    obtain ⟨rfl,rfl,_⟩:=hs
    exact ret
   ·simp only [Sem.runT_eq] at hs ⊢
    exact QS Z hn hw hl hk none (fun x e=>by cases e) hs hd0
 | @cons _ _ kk kk' hi hj =>
   cases hi with
   | inBlock id =>
     simp only [GStep.go.injEq] at hs ⊢
     obtain ⟨rfl,rfl,_⟩:=hs
     exact go hj
   | inLoop b hb =>
     simp only [GStep.go.injEq] at hs ⊢
     obtain ⟨rfl,rfl,_⟩:=hs
     exact go (.cons (.code b hb) (.cons (.inLoop b hb) hj))
   | inScope b =>
     simp only [GStep.go.injEq] at hs ⊢
     obtain ⟨rfl,rfl,_⟩:=hs
     exact go hj
   | inRange hl=>simp only [reduceCtorEq] at hs
   | beginRound =>
     refine QE Z hn hw ha' hk ?_ hs hd0
     rcases h9 with ⟨rfl,rfl⟩ | ⟨l,l',rfl,rfl,hl⟩
     ·exact qg.l qg.halted
     ·exact (qg.beginRound hl).u.l
   | @endRange l l' hl =>
     simp only [Sem.runT_eq] at hs ⊢
     obtain ⟨_,hs⟩:=zl hs
     cases e:(Instr.endLoop l).run P' w with
     | halt x y =>
       rw [e] at hs
       cases x <;> first
        | (cases hs;done)
        | (simp only [GStep.go.injEq] at hs
           obtain ⟨rfl,rfl,_⟩:=hs
           exact .bad (((qg.endLoop (K:=K) (P':=P') (P:=P) Z hl w w' hw).2.1 _ _ e hd).1 hn) ha' hk _)
     | ok v wa =>
       rw [e] at hs
       simp only [GStep.go.injEq] at hs
       obtain ⟨rfl,rfl,_⟩:=hs
       obtain ⟨R1,b,wa',e1,e2,e3,e4,⟨rfl,e5⟩,e6⟩:=xC hw hn (qg.endLoop (K:=K) (P':=P') (P:=P) Z hl) e hd
       rw [e1]
       refine .after e3 (yY.seen e4) (.still e6 e2 ⟨rfl,h2,h3.mono e3.le,?_,h5.mono e3.le,.inl ⟨rfl,rfl⟩,rfl,rfl,?_⟩ (hk.mono e3.le))
       ·cases b with
        | none=>exact hj.mono e3.le
        | some x=>exact .cons (.code x (cd (e5 x rfl))) (hj.mono e3.le)
       ·exact ro9 e3.le
   | inRegion id ops t hr =>
     cases t with
     | nil =>
       simp only [GStep.go.injEq] at hs ⊢
       obtain ⟨rfl,rfl,_⟩:=hs
       exact go hj
     | cons i rest =>
       have hy:Go.yielded ops ts'=Go.yielded ops ts:=funext fun j=>ha'.yielded ops j
       simp only [hy] at hs ⊢
       by_cases hwt:((ops[i]?).map (Region.wanted · (yielded ops ts))).getD false=true
       ·rw [if_pos hwt] at hs
        rw [if_pos hwt]
        cases ho:ops[i]? with
        | none=>rw [ho] at hwt;simp at hwt
        | some o =>
          have hop:opB P c g o.op=true:=by
           have:=dc hr
           simp only [zz,Array.all_eq_true'] at this
           exact this o (Array.mem_of_getElem? ho)
          have hnd:∀cl,o.op≠.defer cl:=fun cl e=>by rw [e] at hop;simp [opB] at hop
          unfold stepG.oper at hs ⊢
          simp only [Frame.oper?,ho] at hs ⊢
          split at hs
          ·rename_i _ _ e;exact absurd e (hnd _)
          ·split
           ·rename_i _ _ e;exact absurd e (hnd _)
           ·exact QE Z hn hw ha' hk (qg.execOp (K:=K) (P':=P') (P:=P) (R:=R) Z.toProgs Z.hc o hop (fun hR x hxo=>ha'.eval Z.hc hg hR x hxo) (fun v=>rfl)) hs hd0
       ·rw [if_neg hwt] at hs
        rw [if_neg hwt]
        simp only [GStep.go.injEq] at hs
        obtain ⟨rfl,rfl,_⟩:=hs
        have:=ha'.finish VR.undef
        exact .still hn hw this (by rw [yH];exact hk)
   | code x hx =>
     have hc:=dc hx
     cases x with
     | skip =>
       simp only [GStep.go.injEq] at hs ⊢
       obtain ⟨rfl,rfl,_⟩:=hs
       exact go hj
     | label n =>
       simp only [GStep.go.injEq] at hs ⊢
       obtain ⟨rfl,rfl,_⟩:=hs
       exact go hj
     | ret =>
       rcases h9 with ⟨rfl,rfl⟩ | ⟨l,l',rfl,rfl,hl⟩
       ·simp only [GStep.go.injEq,if_true] at hs ⊢
        obtain ⟨rfl,rfl,_⟩:=hs
        exact ret
       ·simp only [Sem.runT_eq] at hs ⊢
        exact QS Z hn hw hl hk (some .ret) (fun x e=>by cases e;rfl) hs hd0
     | exit id =>
       simp only at hs ⊢
       cases e:Go.exitTo id kk with
       | some j =>
         obtain ⟨j',e',hj'⟩:=hj.exitTo id e
         rw [e] at hs
         rw [e']
         simp only [Option.elim,GStep.go.injEq] at hs ⊢
         obtain ⟨rfl,rfl,_⟩:=hs
         exact go hj'
       | none =>
         have e':=hj.exitTo_none id e
         rw [e] at hs
         rw [e']
         simp only [Option.elim] at hs ⊢
         rcases h9 with ⟨rfl,rfl⟩ | ⟨l,l',rfl,rfl,hl⟩
         ·simp at hs
         ·simp only [Sem.runT_eq] at hs ⊢
          exact QS Z hn hw hl hk (some (.exit id)) (fun x e=>by cases e;rfl) hs hd0
     | seq x y =>
       simp only [zz,Bool.and_eq_true] at hc
       simp only [GStep.go.injEq] at hs ⊢
       obtain ⟨rfl,rfl,_⟩:=hs
       exact go (.cons (.code x (cd hc.1)) (.cons (.code y (cd hc.2)) hj))
     | cond o x y =>
       simp only [zz,Bool.and_eq_true] at hc
       have hv:=ha'.eval Z.hc hg (fun _ _ h=>h) o hc.1.1
       simp only at hs ⊢
       revert hv hs
       generalize Frame.eval { fn:=fn',tmps:=ts,todo:=_,defers:=ds,mode:=.run,kind:=.normal,roundOf:=ro } o=v
       generalize Frame.eval { fn:=fn',tmps:=ts',todo:=_,defers:=ds',mode:=.run,kind:=.normal,roundOf:=ro' } o=v'
       intro hs hv
       cases hv <;> first
        | (cases hs;done)
        | (simp only [GStep.go.injEq] at hs ⊢
           obtain ⟨rfl,rfl,_⟩:=hs
           refine go (.cons (.code _ (cd ?_)) hj)
           split
           ·exact hc.1.2
           ·exact hc.2)
     | block id b =>
       simp only [zz] at hc
       simp only [GStep.go.injEq] at hs ⊢
       obtain ⟨rfl,rfl,_⟩:=hs
       exact go (.cons (.code b (cd hc)) (.cons (.inBlock id) hj))
     | loop b =>
       simp only [zz] at hc
       simp only [GStep.go.injEq] at hs ⊢
       obtain ⟨rfl,rfl,_⟩:=hs
       exact go (.cons (.code b (cd hc)) (.cons (.inLoop b (cd hc)) hj))
     | scope b =>
       simp only [zz] at hc
       simp only [GStep.go.injEq] at hs ⊢
       obtain ⟨rfl,rfl,_⟩:=hs
       exact go (.cons (.code b (cd hc)) (.cons (.inScope b) hj))
     | region id ops draw =>
       have hr:K.D fn' (.region id ops false):=cd hc
       cases draw with
       | false =>
         simp only [Bool.not_false,if_true,GStep.go.injEq] at hs ⊢
         obtain ⟨rfl,rfl,_⟩:=hs
         exact go (.cons (.inRegion id ops _ hr) hj)
       | true =>
         simp only [Bool.not_true,Bool.false_eq_true,if_false] at hs ⊢
         cases e:(choose (.order fn' id)).run P' w with
         | halt x y=>rw [e] at hs;cases hs
         | ok t wa =>
           rw [e] at hs
           simp only [GStep.go.injEq] at hs
           obtain ⟨rfl,rfl,_⟩:=hs
           obtain ⟨R1,b,wa',e1,e2,e3,e4,rfl,e6⟩:=xC hw hn (qg.choose (K:=K) (P':=P') (P:=P) (.order fn' id)) e hd
           rw [e1]
           dsimp only
           have hf:P'.follows .mixedOrders=P.follows .mixedOrders:=by
            have hT:=Z.tables
            obtain ⟨T',f'⟩:=P';obtain ⟨T,f⟩:=P
            simp only at hT;subst hT;rfl
           rw [hf]
           exact ⟨e6,.inr ⟨R1,_,_,_,rfl,.inl (.mk ⟨rfl,h2,h3.mono e3.le,.cons (.inRegion id ops _ hr) (hj.mono e3.le),h5.mono e3.le,.inl ⟨rfl,rfl⟩,rfl,rfl,ro9 e3.le⟩ (hk.mono e3.le)),e2,e3,yY.nil⟩⟩
     | rangeFunc f ps x y =>
       simp only [zz,Bool.and_eq_true] at hc
       simp only [Sem.runT_eq] at hs ⊢
       obtain ⟨_,hs⟩:=zl hs
       cases e:(Instr.enterLoop fn' ts ps x y ro).run P' w with
       | halt x y=>rw [e] at hs;cases hs
       | ok lm wa =>
         rw [e] at hs
         obtain ⟨l,mark⟩:=lm
         dsimp only at hs
         have hwa:wa.drawn≤K.lim:=Nat.le_trans (Nat.le_trans (zh _ _ _) (jP hs)) hd
         obtain ⟨R1,lm',wa',e1,e2,e3,e4,⟨e5,e5'⟩,e6⟩:=xC hw hn (qg.enterLoop (K:=K) (P':=P') (P:=P) h3 ps (cd hc.1.2) (cd hc.2) h9) e hwa
         rw [e1]
         obtain ⟨l',mark'⟩:=lm'
         dsimp only
         have hfr:FR K P' P R1 { fn:=fn',tmps:=ts,todo:=.inRangeFunc l :: kk,defers:=mark ++ ds,mode:=.run,kind:=.normal,roundOf:=ro } { fn:=fn',tmps:=ts',todo:=.inRangeFunc l' :: kk',defers:=mark' ++ ds',mode:=.run,kind:=.normal,roundOf:=ro' } :=
          ⟨rfl,h2,h3.mono e3.le,.cons (.inRange e5) (hj.mono e3.le),e5'.append (h5.mono e3.le),.inl ⟨rfl,rfl⟩,rfl,rfl,ro9 e3.le⟩
         refine .after e3 (yY.seen e4) (QE Z e6 e2 hfr (hk.mono e3.le) ?_ hs hd0)
         refine qg.l (qg.invokeValue Z.toProgs ((ha'.mono e3.le).eval Z.hc (fun n h=>e3.le _ _ (hg n h)) (fun _ _ h=>h) f hc.1.1) ?_)
         simp only [List.map_toArray,List.map_cons,List.map_nil,Frame.eval]
         exact AR.one (.yld e5)
     | _=>simp [zz] at hc
theorem qaz (Z:Cov K P' P c g Sp) {w w':World} (hn:yE w) (hw:WR K R w w') {a a':Frame} {k k':List Frame} (ha:FR K P' P R a a') (hk:KR K P' P bs R a.roundOf k k') (hm:a.mode=.returning)
 (hl:¬ (a.defers=[]∧k=bs.src)) {m m':Bool} {g1:Goroutine} {w1:World} {es:Array Event}
 (hs:unwind P' m a k none w=.go g1 w1 es) (hd0:w1.drawn=K.lim):jI K P' P Sp bs R w w' g1 w1 (unwind P m' a' k' none w'):=by
 have hd:=Nat.le_of_eq hd0
 obtain ⟨fn,ts,td,ds,mode,kind,ro⟩:=a
 obtain ⟨fn',ts',td',ds',mode',kind',ro'⟩:=a'
 have ha':=ha
 obtain ⟨h1,h2,h3,h4,h5,h6,h7,h8,h9⟩:=ha
 simp only at h1 h2 h3 h4 h5 h6 h7 h8 h9 hk hm hl
 subst h1 hm h7 h8
 have h6:mode'=.returning:=by rcases h6 with ⟨h,_⟩ | ⟨_,h⟩;cases h;exact h
 subst h6
 have ro9:∀{R1:Nat→Nat→Prop},(∀b c,R b c→R1 b c)→(ro=none∧ro'=none)∨∃l l',ro=some l∧ro'=some l'∧R1 l l':=fun h=>h9.imp (fun x=>x) fun ⟨l,l',p,q,r⟩=>⟨l,l',p,q,h _ _ r⟩
 unfold unwind at hs ⊢
 cases h5 with
 | cons hd1 hds =>
   cases hd1 with
   | @collected r r' hr =>
     simp only [Sem.runT_eq] at hs ⊢
     obtain ⟨_,hs⟩:=zl hs
     cases e:(Instr.takeDeferred r).run P' w with
     | halt x y=>rw [e] at hs;cases hs
     | ok v wa =>
       rw [e] at hs
       simp only [GStep.go.injEq] at hs
       obtain ⟨rfl,rfl,_⟩:=hs
       obtain ⟨R1,b,wa',e1,e2,e3,e4,⟨rfl,rfl⟩,e6⟩:=xC hw hn (qg.takeDeferred (K:=K) (P':=P') (P:=P) hr) e hd
       rw [e1]
       exact .after e3 (yY.seen e4) (.still e6 e2 ⟨rfl,h2,h3.mono e3.le,h4.mono e3.le,hds.mono e3.le,.inr ⟨rfl,rfl⟩,rfl,rfl,ro9 e3.le⟩ (hk.mono e3.le))
 | nil =>
   obtain ⟨F,f1,f2,_⟩:=h2
   simp only [f1,f2,Sem.runT_eq] at hs ⊢
   obtain ⟨_,hs⟩:=zl hs
   cases hk with
   | base _=>exact absurd ⟨rfl,rfl⟩ hl
   | over hk =>
     cases e:(Go.results F ts).run P' w with
     | halt x y=>rw [e] at hs;cases x <;> cases hs
     | ok v wa =>
       rw [e] at hs
       dsimp only at hs
       have hwa:wa.drawn≤K.lim:=by
        refine Nat.le_trans (Nat.le_of_eq ?_) hd
        unfold doReturn at hs
        cases hk <;> (simp only [GStep.go.injEq] at hs;rw [hs.2.1])
       obtain ⟨R1,b,wa',e1,e2,e3,e4,e5,e6⟩:=xC hw hn (qg.results (K:=K) (P':=P') (P:=P) Z.toSame F h3) e hwa
       rw [e1]
       exact .after e3 (yY.seen e4) (Yn e6 e2 rfl rfl (hk.mono e3.le) e5 hs)
theorem jf (Z:Cov K P' P c g Sp) {w w':World} (hn:yE w) (hw:WR K R w w') (hg:∀n,g n=true→R n n) {q q':Goroutine} (hq:GR K P' P bs R q q') (hl:¬ zZ bs.src q) {m m':Bool} {g1:Goroutine} {w1:World} {es:Array Event}
 (hs:stepG P' m q w=.go g1 w1 es) (hd0:w1.drawn=K.lim):jI K P' P Sp bs R w w' g1 w1 (stepG P m' q' w'):=by
 have hd:=Nat.le_of_eq hd0
 cases hq with
 | @mk a a' k k' ha hk =>
   obtain ⟨fn,ts,td,ds,mode,kind,ro⟩:=a
   obtain ⟨fn',ts',td',ds',mode',kind',ro'⟩:=a'
   rcases ha.mode with ⟨h,h'⟩ | ⟨h,h'⟩
   ·simp only at h h'
    subst h h'
    exact qcZ Z hn hw ha hk rfl hg hs hd0
   ·simp only at h h'
    subst h h'
    exact qaz Z hn hw ha hk rfl (fun ⟨x,y⟩=>hl ⟨rfl,x,y⟩) hs hd0
end
def Here (F:World→GStep) (w:World) (g1:Goroutine) (w1:World):Prop:=∀u,Agree w.tape u w.drawn w1.drawn→w.drawn≤w1.drawn∧∃es,F (w.tp u)=.go g1 (w1.tp u) es
theorem xg {es:Array Event} {s:GStep} {g1:Goroutine} {w1:World} {e:Array Event} (h:s=.go g1 w1 e):∃e',GStep.after es s=.go g1 w1 e':=by
 subst h;exact ⟨_,rfl⟩
section
variable {K:Cfg} {P' P:Program} {R:Nat→Nat→Prop} {Sp:FuncId→Prop} {c g:Nat→Bool} {bs:Bs}
theorem QC {w w':World} (hw:WR K R w w') {a:Frame} {k:List Frame} {s s':Sem Next} {Q:(Nat→Nat→Prop)→Next→Next→Prop} (h:xV K P' P R s s' Q) {g1:Goroutine} {w1:World} {es:Array Event}
 (hs:stepG.apply P' true a k none s w=.go g1 w1 es) (hd:w1.drawn≤K.lim):Here (stepG.apply P' true a k none s) w g1 w1:=by
 intro u hu
 have hle:=jP hs
 have ht:=(h w w' hw).2.2 (Nat.le_trans hle hd) u (hu.mono (Nat.le_refl _) hle)
 have kh:=(h w w' hw).2.1
 refine ⟨Nat.le_trans (zh _ _ _) hle,?_⟩
 unfold stepG.apply at hs ⊢
 simp only [Sem.runT_eq,if_true] at hs ⊢
 obtain ⟨_,hs⟩:=zl hs
 rw [ht]
 cases e:s.run P' w with
 | halt x y =>
   rw [e] at hs hle
   have kh:=(kh x y e (Nat.le_trans hle hd)).2
   cases x with
   | panic v =>
     simp only [GStep.go.injEq] at hs
     obtain ⟨rfl,rfl,_⟩:=hs
     exact xg rfl
   | stuck m=>cases hs
   | unsupported q =>
     cases q <;> first
      | (cases hs;done)
      | (simp [yZ] at kh;done)
   | _=>simp [yZ] at kh
 | ok n w2 =>
   rw [e] at hs
   refine xg (e:=#[]) ?_
   cases n <;> (try dsimp only at hs) <;> (try simp only [Result.tp]) <;> repeat' (first | (cases hs;done) | (split at hs))
   all_goals first
    | (simp only [GStep.go.injEq] at hs
       obtain ⟨h1,h2,_⟩:=hs
       subst h1 h2
       rfl)
    | (simp only [endThrow,dieOf,GStep.go.injEq] at hs
       obtain ⟨h1,h2,_⟩:=hs
       subst h1 h2
       rfl)
    | (simp only [GStep.go.injEq] at hs
       obtain ⟨h1,h2,_⟩:=hs
       subst h1 h2
       simp_all)
    | (simp only [endThrow,dieOf,GStep.go.injEq] at hs
       obtain ⟨h1,h2,_⟩:=hs
       subst h1 h2
       simp_all [endThrow,dieOf])
theorem xB {α β:Type} {s:Sem α} {s':Sem β} {Q:(Nat→Nat→Prop)→α→β→Prop} {w w':World} (hw:WR K R w w') (h:qg K P' P R s s' Q) {a:α} {wa:World} (e:s.run P' w=.ok a wa) (hd:wa.drawn≤K.lim)
 {u:Nat→Question→Nat} {n:Nat} (hn:wa.drawn≤n) (hu:Agree w.tape u w.drawn n):s.run P' (w.tp u)=.ok a (wa.tp u):=by
 have:=(h w w' hw).2.2 (by rw [e];exact hd) u (by rw [e];exact hu.mono (Nat.le_refl _) hn)
 rw [e] at this
 exact this
theorem qej {α β:Type} {s:Sem α} {s':Sem β} {Q:(Nat→Nat→Prop)→α→β→Prop} {w w':World} (hw:WR K R w w') (h:qg K P' P R s s' Q) {x:Halt} {wa:World} (e:s.run P' w=.halt x wa) (hd:wa.drawn≤K.lim)
 {u:Nat→Question→Nat} {n:Nat} (hn:wa.drawn≤n) (hu:Agree w.tape u w.drawn n):s.run P' (w.tp u)=.halt x (wa.tp u):=by
 have:=(h w w' hw).2.2 (by rw [e];exact hd) u (by rw [e];exact hu.mono (Nat.le_refl _) hn)
 rw [e] at this
 exact this
theorem Ym {wa w1:World} {u:Nat→Question→Nat} {a:Frame} {k k':List Frame} (hk:FsR K P' P bs R k k') (hkd:a.kind=.normal) {v:Value} {m:Bool} {g1:Goroutine} {es:Array Event}
 (hs:doReturn P' m a k none v wa=.go g1 w1 es):w1=wa∧doReturn P' m a k none v (wa.tp u)=.go g1 (w1.tp u) es:=by
 unfold doReturn at hs ⊢
 cases hk <;> (simp only [hkd,GStep.go.injEq] at hs ⊢;obtain ⟨h1,h2,h3⟩:=hs;subst h1 h2 h3;exact ⟨rfl,rfl,rfl,rfl⟩)
theorem QR (Z:Cov K P' P c g Sp) {w w':World} (hw:WR K R w w') {fn:FuncId} {ts:Array Value} {td:List Item} {ds:List Deferred} {l l':Nat} {k k':List Frame}
 (hl:R l l') (hk:KR K P' P bs R (some l) k k') (j:Option Code) (hj:∀x,j=some x→zz P c g x=true) {m:Bool} {s:String} {g1:Goroutine} {w1:World} {es:Array Event}
 (hs:(GStep.after (seen P' fn ((Instr.endRound l j).events P' w #[])) (match (Instr.endRound l j).run P' w with
    | .ok v w=>doReturn P' m { fn,tmps:=ts,todo:=td,defers:=ds,mode:=.run,kind:=.normal,roundOf:=some l } k none v w
    | .halt _ w=>.ended (.stuck "range over a function: no such loop" s) w))=.go g1 w1 es) (hd:w1.drawn≤K.lim) {u:Nat→Question→Nat} (hu:Agree w.tape u w.drawn w1.drawn) :
 w.drawn≤w1.drawn∧∃es',(GStep.after (seen P' fn ((Instr.endRound l j).events P' (w.tp u) #[])) (match (Instr.endRound l j).run P' (w.tp u) with
  | .ok v w=>doReturn P' m { fn,tmps:=ts,todo:=td,defers:=ds,mode:=.run,kind:=.normal,roundOf:=some l } k none v w
  | .halt _ w=>.ended (.stuck "range over a function: no such loop" s) w))=.go g1 (w1.tp u) es':=by
 obtain ⟨_,hs⟩:=zl hs
 cases e:(Instr.endRound l j).run P' w with
 | halt x y=>rw [e] at hs;cases hs
 | ok v wa =>
   rw [e] at hs
   dsimp only at hs
   cases hk with
   | base h=>cases h
   | over hk =>
     obtain ⟨hwa,hs2⟩:=Ym (u:=u) hk rfl hs
     subst hwa
     rw [xB hw (qg.endRound (K:=K) (P':=P') (P:=P) hl j fun f x y ej hy=>(Z.hD f x).2 ⟨((Z.hD f y).1 hy).1,hj x ej⟩) e hd (Nat.le_refl _) hu]
     exact ⟨zb P' _ e,xg hs2⟩
theorem qcX (Z:Cov K P' P c g Sp) {w w':World} (hw:WR K R w w') {a a':Frame} {k k':List Frame} (ha:FR K P' P R a a') (hk:KR K P' P bs R a.roundOf k k') (hm:a.mode=.run) (hg:∀n,g n=true→R n n) {m:Bool} {g1:Goroutine} {w1:World} {es:Array Event}
 (hs:stepG.exec P' m true a k none w=.go g1 w1 es) (hd:w1.drawn≤K.lim):Here (stepG.exec P' m true a k none) w g1 w1:=by
 intro u hu
 obtain ⟨fn,ts,td,ds,mode,kind,ro⟩:=a
 obtain ⟨fn',ts',td',ds',mode',kind',ro'⟩:=a'
 have ha':=ha
 obtain ⟨h1,h2,h3,h4,h5,h6,h7,h8,h9⟩:=ha
 simp only at h1 h2 h3 h4 h5 h6 h7 h8 h9 hk hm
 subst h1 hm h7 h8
 have h6:mode'=.run:=by rcases h6 with ⟨_,h⟩ | ⟨h,_⟩;exact h;cases h
 subst h6
 have dc:∀{x:Code},K.D fn' x→zz P c g x=true:=fun h=>((Z.hD _ _).1 h).2
 have cd:∀{x:Code},zz P c g x=true→K.D fn' x:=fun h=>(Z.hD _ _).2 ⟨h2,h⟩
 have ro9:∀{R1:Nat→Nat→Prop},(∀b c,R b c→R1 b c)→(ro=none∧ro'=none)∨∃l l',ro=some l∧ro'=some l'∧R1 l l':=fun h=>h9.imp (fun x=>x) fun ⟨l,l',p,q,r⟩=>⟨l,l',p,q,h _ _ r⟩
 unfold stepG.exec at hs ⊢
 have pure1:∀{q:Goroutine},GStep.go q w #[]=.go g1 w1 es→w.drawn≤w1.drawn∧∃es',GStep.go q (w.tp u) #[]=.go g1 (w1.tp u) es':=fun h=>by
  simp only [GStep.go.injEq] at h
  obtain ⟨rfl,rfl,_⟩:=h
  exact ⟨Nat.le_refl _,_,rfl⟩
 cases h4 with
 | nil =>
   rcases h9 with ⟨rfl,rfl⟩ | ⟨l,l',rfl,rfl,hl⟩
   ·simp only [if_true] at hs ⊢
    exact pure1 hs
   ·simp only [Sem.runT_eq] at hs ⊢
    exact QR Z hw hl hk none (fun x e=>by cases e) hs hd hu
 | @cons _ _ kk kk' hi hj =>
   cases hi with
   | inBlock id=>exact pure1 hs
   | inLoop b hb=>exact pure1 hs
   | inScope b=>exact pure1 hs
   | inRange hl=>simp only [reduceCtorEq] at hs
   | beginRound =>
     refine QC (P:=P) hw (Q:=fun R1 x y=>NextR K R1 x y) (s':=do ro'.elim (Go.stuck "beginRound: no round") Instr.beginRound;Pure.pure .skip) ?_ hs hd u hu
     rcases h9 with ⟨rfl,rfl⟩ | ⟨l,l',rfl,rfl,hl⟩
     ·exact qg.l qg.halted
     ·exact (qg.beginRound hl).u.l
   | @endRange l l' hl =>
     simp only [Sem.runT_eq] at hs ⊢
     obtain ⟨_,hs⟩:=zl hs
     cases e:(Instr.endLoop l).run P' w with
     | halt x y =>
       rw [e] at hs
       cases x <;> first
        | (cases hs;done)
        | (simp only [GStep.go.injEq] at hs
           obtain ⟨h1,h2,_⟩:=hs
           subst h1 h2
           rw [qej hw (qg.endLoop (K:=K) (P':=P') (P:=P) Z hl) e hd (Nat.le_refl _) hu]
           exact ⟨jq P' _ e,xg rfl⟩)
     | ok v wa =>
       rw [e] at hs
       simp only [GStep.go.injEq] at hs
       obtain ⟨h1,h2,_⟩:=hs
       subst h1 h2
       rw [xB hw (qg.endLoop (K:=K) (P':=P') (P:=P) Z hl) e hd (Nat.le_refl _) hu]
       exact ⟨zb P' _ e,xg rfl⟩
   | inRegion id ops t hr =>
     cases t with
     | nil=>exact pure1 hs
     | cons i rest =>
       simp only at hs ⊢
       by_cases hwt:((ops[i]?).map (Region.wanted · (yielded ops ts))).getD false=true
       ·rw [if_pos hwt] at hs
        rw [if_pos hwt]
        cases ho:ops[i]? with
        | none=>rw [ho] at hwt;simp at hwt
        | some o =>
          have hop:opB P c g o.op=true:=by
           have:=dc hr
           simp only [zz,Array.all_eq_true'] at this
           exact this o (Array.mem_of_getElem? ho)
          have hnd:∀cl,o.op≠.defer cl:=fun cl e=>by rw [e] at hop;simp [opB] at hop
          unfold stepG.oper at hs ⊢
          simp only [Frame.oper?,ho] at hs ⊢
          split at hs
          ·rename_i _ _ e;exact absurd e (hnd _)
          ·exact QC hw (qg.execOp (K:=K) (P':=P') (P:=P) (R:=R) Z.toProgs Z.hc o hop (fun hR x hxo=>ha'.eval Z.hc hg hR x hxo) (fun v=>rfl)) hs hd u hu
       ·rw [if_neg hwt] at hs
        rw [if_neg hwt]
        exact pure1 hs
   | code x hx =>
     have hc:=dc hx
     cases x with
     | skip=>exact pure1 hs
     | label n=>exact pure1 hs
     | ret =>
       rcases h9 with ⟨rfl,rfl⟩ | ⟨l,l',rfl,rfl,hl⟩
       ·simp only [if_true] at hs ⊢
        exact pure1 hs
       ·simp only [Sem.runT_eq] at hs ⊢
        exact QR Z hw hl hk (some .ret) (fun x e=>by cases e;rfl) hs hd hu
     | exit id =>
       simp only at hs ⊢
       cases e:Go.exitTo id kk with
       | some j =>
         rw [e] at hs
         simp only [Option.elim] at hs ⊢
         exact pure1 hs
       | none =>
         rw [e] at hs
         simp only [Option.elim] at hs ⊢
         rcases h9 with ⟨rfl,rfl⟩ | ⟨l,l',rfl,rfl,hl⟩
         ·simp at hs
         ·simp only [Sem.runT_eq] at hs ⊢
          exact QR Z hw hl hk (some (.exit id)) (fun x e=>by cases e;rfl) hs hd hu
     | seq x y=>exact pure1 hs
     | cond o x y =>
       simp only at hs ⊢
       revert hs
       generalize Frame.eval { fn:=fn',tmps:=ts,todo:=_,defers:=ds,mode:=.run,kind:=.normal,roundOf:=ro } o=v
       intro hs
       cases v <;> first
        | (simp only [reduceCtorEq] at hs;done)
        | exact pure1 hs
     | block id b=>exact pure1 hs
     | loop b=>exact pure1 hs
     | scope b=>exact pure1 hs
     | region id ops draw =>
       cases draw with
       | false =>
         simp only [Bool.not_false,if_true] at hs ⊢
         exact pure1 hs
       | true =>
         simp only [Bool.not_true,Bool.false_eq_true,if_false] at hs ⊢
         cases e:(choose (.order fn' id)).run P' w with
         | halt x y=>rw [e] at hs;cases hs
         | ok t wa =>
           rw [e] at hs
           simp only [GStep.go.injEq] at hs
           obtain ⟨h1,h2,_⟩:=hs
           subst h1 h2
           rw [xB hw (qg.choose (K:=K) (P':=P') (P:=P) (.order fn' id)) e hd (Nat.le_refl _) hu]
           exact ⟨zb P' _ e,_,rfl⟩
     | rangeFunc f ps x y =>
       simp only [zz,Bool.and_eq_true] at hc
       simp only [Sem.runT_eq] at hs ⊢
       obtain ⟨_,hs⟩:=zl hs
       cases e:(Instr.enterLoop fn' ts ps x y ro).run P' w with
       | halt x y=>rw [e] at hs;cases hs
       | ok lm wa =>
         rw [e] at hs
         obtain ⟨l,mark⟩:=lm
         dsimp only at hs
         have hle:wa.drawn≤w1.drawn:=Nat.le_trans (zh _ _ _) (jP hs)
         have hwa:wa.drawn≤K.lim:=Nat.le_trans hle hd
         have hEL:=qg.enterLoop (K:=K) (P':=P') (P:=P) h3 ps (cd hc.1.2) (cd hc.2) h9
         obtain ⟨R1,lm',wa',e1,e2,e3,e4,⟨e5,e5'⟩,e6⟩:=(hEL w w' hw).1 _ _ e hwa
         rw [xB hw hEL e hwa hle hu]
         dsimp only
         have hfr:FR K P' P R1 { fn:=fn',tmps:=ts,todo:=.inRangeFunc l :: kk,defers:=mark ++ ds,mode:=.run,kind:=.normal,roundOf:=ro } { fn:=fn',tmps:=ts',todo:=.inRangeFunc lm'.1 :: kk',defers:=lm'.2 ++ ds',mode:=.run,kind:=.normal,roundOf:=ro' } :=
          ⟨rfl,h2,h3.mono e3.le,.cons (.inRange e5) (hj.mono e3.le),e5'.append (h5.mono e3.le),.inl ⟨rfl,rfl⟩,rfl,rfl,ro9 e3.le⟩
         obtain ⟨hd2,es',h'⟩:=QC (P:=P) e2 (Q:=fun R1 x y=>NextR K R1 x y) (s':=do
          let d ← resolve (Frame.eval { fn:=fn',tmps:=ts',todo:=.inRangeFunc lm'.1 :: kk',defers:=lm'.2 ++ ds',mode:=.run,kind:=.normal,roundOf:=ro' }) { callee:=.value f,args:=#[.const (.func (.yield lm'.1) #[] #[])],argTypes:=#[] } 0
          invoke d.target d.args) (by
          refine qg.l (qg.invokeValue Z.toProgs ((ha'.mono e3.le).eval Z.hc (fun n h=>e3.le _ _ (hg n h)) (fun _ _ h=>h) f hc.1.1) ?_)
          simp only [List.map_toArray,List.map_cons,List.map_nil,Frame.eval]
          exact AR.one (.yld e5)) hs hd u (by rw [e3.tp];exact hu.mono (zb P' _ e) (Nat.le_refl _))
         exact ⟨Nat.le_trans (zb P' _ e) hd2,xg h'⟩
     | _=>simp [zz] at hc
theorem qay (Z:Cov K P' P c g Sp) {w w':World} (hw:WR K R w w') {a a':Frame} {k k':List Frame} (ha:FR K P' P R a a') (hk:KR K P' P bs R a.roundOf k k') (hm:a.mode=.returning)
 (hl:¬ (a.defers=[]∧k=bs.src)) {m:Bool} {g1:Goroutine} {w1:World} {es:Array Event}
 (hs:unwind P' m a k none w=.go g1 w1 es) (hd:w1.drawn≤K.lim):Here (unwind P' m a k none) w g1 w1:=by
 intro u hu
 obtain ⟨fn,ts,td,ds,mode,kind,ro⟩:=a
 obtain ⟨fn',ts',td',ds',mode',kind',ro'⟩:=a'
 obtain ⟨h1,h2,h3,h4,h5,h6,h7,h8,h9⟩:=ha
 simp only at h1 h2 h3 h4 h5 h6 h7 h8 h9 hk hm hl
 subst h1 hm h7 h8
 unfold unwind at hs ⊢
 cases h5 with
 | cons hd1 hds =>
   cases hd1 with
   | @collected r r' hr =>
     simp only [Sem.runT_eq] at hs ⊢
     obtain ⟨_,hs⟩:=zl hs
     cases e:(Instr.takeDeferred r).run P' w with
     | halt x y=>rw [e] at hs;cases hs
     | ok v wa =>
       rw [e] at hs
       simp only [GStep.go.injEq] at hs
       obtain ⟨h1,h2,_⟩:=hs
       subst h1 h2
       rw [xB hw (qg.takeDeferred (K:=K) (P':=P') (P:=P) hr) e hd (Nat.le_refl _) hu]
       exact ⟨zb P' _ e,xg rfl⟩
 | nil =>
   obtain ⟨F,f1,f2,_⟩:=h2
   simp only [f1,Sem.runT_eq] at hs ⊢
   obtain ⟨_,hs⟩:=zl hs
   cases hk with
   | base _=>exact absurd ⟨rfl,rfl⟩ hl
   | over hk =>
     cases e:(Go.results F ts).run P' w with
     | halt x y=>rw [e] at hs;cases x <;> cases hs
     | ok v wa =>
       rw [e] at hs
       dsimp only at hs
       obtain ⟨hwa,hs2⟩:=Ym (u:=u) hk rfl hs
       subst hwa
       rw [xB hw (qg.results (K:=K) (P':=P') (P:=P) Z.toSame F h3) e hd (Nat.le_refl _) hu]
       exact ⟨zb P' _ e,xg hs2⟩
theorem qeO (Z:Cov K P' P c g Sp) {w w':World} (hw:WR K R w w') (hg:∀n,g n=true→R n n) {q q':Goroutine} (hq:GR K P' P bs R q q') (hl:¬ zZ bs.src q) {m:Bool} {g1:Goroutine} {w1:World} {es:Array Event}
 (hs:stepG P' m q w=.go g1 w1 es) (hd:w1.drawn≤K.lim):Here (fun w=>stepG P' m q w) w g1 w1:=by
 cases hq with
 | @mk a a' k k' ha hk =>
   obtain ⟨fn,ts,td,ds,mode,kind,ro⟩:=a
   rcases ha.mode with ⟨h,h'⟩ | ⟨h,h'⟩
   ·simp only at h
    subst h
    exact qcX Z hw ha hk rfl hg hs hd
   ·simp only at h
    subst h
    exact qay Z hw ha hk rfl (fun ⟨x,y⟩=>hl ⟨rfl,x,y⟩) hs hd
end
def Cfg.at (K:Cfg) (n:Nat):Cfg:={ K with lim:=n }
section
variable {K:Cfg} {P' P:Program} {R:Nat→Nat→Prop} {f:FuncId} {bs:Bs} (n:Nat)
theorem ItemR.at {i i':Item} (x:ItemR K f R i i'):ItemR (K.at n) f R i i':=by
 cases x with
 | code c d=>exact .code c d
 | inBlock id=>exact .inBlock id
 | inLoop b d=>exact .inLoop b d
 | inScope b=>exact .inScope b
 | inRegion id ops t d=>exact .inRegion id ops t d
 | inRange r=>exact .inRange r
 | endRange r=>exact .endRange r
 | beginRound=>exact .beginRound
theorem ItemsR.at {i i':List Item} (x:ItemsR K f R i i'):ItemsR (K.at n) f R i i':=by
 induction x with
 | nil=>exact .nil
 | cons a _ ih=>exact .cons (a.at n) ih
theorem FR.at {a a':Frame} (x:FR K P' P R a a'):FR (K.at n) P' P R a a':=⟨x.fn,x.std,x.tmps,x.todo.at n,x.defers,x.mode,x.kind,x.kind',x.round⟩
theorem FsR.at {a a':List Frame} (x:FsR K P' P bs R a a'):FsR (K.at n) P' P bs R a a':=by
 induction x with
 | one a b=>exact .one (a.at n) b
 | cons a _ ih=>exact .cons (a.at n) ih
theorem KR.at {ro:Option Nat} {a a':List Frame} (x:KR K P' P bs R ro a a'):KR (K.at n) P' P bs R ro a a':=by
 cases x with
 | base e=>exact .base e
 | over k=>exact .over (k.at n)
theorem GR.at {a a':Goroutine} (x:GR K P' P bs R a a'):GR (K.at n) P' P bs R a a':=by
 cases x with | mk a b=>exact .mk (a.at n) (b.at n)
theorem GR.un {a a':Goroutine} {n:Nat} (x:GR (K.at n) P' P bs R a a'):GR K P' P bs R a a':=x.at K.lim
theorem FsR.un {a a':List Frame} {n:Nat} (x:FsR (K.at n) P' P bs R a a'):FsR K P' P bs R a a':=x.at K.lim
theorem Cov.at {c g:Nat→Bool} {Sp:FuncId→Prop} (Z:Cov K P' P c g Sp):Cov (K.at n) P' P c g Sp :=
 { tables:=Z.tables,zero:=Z.zero,ng:=Z.ng,call:=Z.call,hc:=Z.hc,hD:=Z.hD,body:=Z.body }
theorem xI.un {Sp:FuncId→Prop} {a a':Goroutine} {n:Nat} (x:xI (K.at n) P' P Sp bs R a a'):xI K P' P Sp bs R a a':=by
 obtain ⟨f,xs,xs',k,k',h1,h2,h3,h4,h5⟩:=x
 exact ⟨f,xs,xs',k,k',h1,h2,h3.un,h4,h5⟩
theorem Ext.un {R1:Nat→Nat→Prop} {w w' w1 w1':World} {n:Nat} (x:Ext (K.at n) R R1 w w' w1 w1'):Ext K R R1 w w' w1 w1':=⟨x.le,x.new,x.size,x.size',x.stay,x.tp,x.tp',x.os',x.out',x.held⟩
end
structure W0 (K:Cfg) (R:Nat→Nat→Prop) (w w':World):Prop where
 fn:∀b c d,R b c→R b d→c=d
 inj:∀b c d,R b d→R c d→b=c
 obj:∀b c,R b c→∃o o',w.heap[b]? = some o∧w'.heap[c]? = some o'∧OR K.C K.D R o o'
 fz:∀b,K.Fz b→∃c e hi,w.heap[b]? = some (.cells c e (0,hi))∧c.size≤hi
 glob:∀b c,R b c→(b < K.ng↔c < K.ng)
 big:K.ng≤w.heap.size
 big':K.ng≤w'.heap.size
theorem WR.w0 {K:Cfg} {R:Nat→Nat→Prop} {w w':World} {n:Nat} (h:WR (K.at n) R w w'):W0 K R w w':=⟨h.fn,h.inj,h.obj,h.fz,h.glob,h.big,h.big'⟩
theorem W0.wr {K:Cfg} {R:Nat→Nat→Prop} {w w':World} (h:W0 K R w w') (n:Nat) (t:∀i q,w.drawn+i < n→w'.tape (w'.drawn+i) q=w.tape (w.drawn+i) q):WR (K.at n) R w w':=⟨h.fn,h.inj,h.obj,h.fz,t,h.glob,h.big,h.big'⟩
section
variable (P':Program) (m:Bool) (Fin:Goroutine→World→Prop)
inductive Reach:Goroutine→World→Prop
 | fin {g:Goroutine} {w:World}:Leaves g→Fin g w→Reach g w
 | step {g g1:Goroutine} {w w1:World} {es:Array Event}:¬ Leaves g→stepG P' m g w=.go g1 w1 es→Reach g1 w1→Reach g w
inductive LT:Goroutine→World→Prop
 | fin {g:Goroutine} {w:World}:Leaves g→(∀t,Fin g (w.tp t))→LT g w
 | step {g:Goroutine} {w:World}:¬ Leaves g→(nx:(Nat→Question→Nat)→Goroutine×World)→(∀t,∃es,stepG P' m g (w.tp t)=.go (nx t).1 (nx t).2 es∧¬ Bad (nx t).1)→(∀t,LT (nx t).1 (nx t).2)→LT g w
end
theorem Reach.notBad {P':Program} {m:Bool} {Fin:Goroutine→World→Prop} {g:Goroutine} {w:World} (h:Reach P' m Fin g w):yE w→¬ Bad g:=by
 induction h with
 | fin h _=>exact fun _ hb=>hb.notLeaves h
 | step _ hs _ ih =>
   intro hn hb
   obtain ⟨h1,h2⟩:=hb.step hn hs
   exact ih h2 h1
section
variable {K:Cfg} {P':Program} {c g:Nat→Bool} {m:Bool} {Fin:Goroutine→World→Prop}
def YH (K:Cfg) (P':Program) (g:Nat→Bool) (q:Goroutine) (w:World):Prop :=
 ∃R,GR K P' P' (.lone [c0]) R q q∧W0 K R w w∧yE w∧∀n,g n=true→R n n
theorem YH.turn (Z:Cov K P' P' c g (fun _=>False)) {q:Goroutine} {w:World} (h:YH K P' g q w) (hl:¬ Leaves q) (t:Nat→Question→Nat) {g1:Goroutine} {w1:World} {es:Array Event} (hs:stepG P' m q (w.tp t)=.go g1 w1 es) :
 Here (fun w=>stepG P' m q w) (w.tp t) g1 w1∧(¬ Bad g1→YH K P' g g1 w1):=by
 obtain ⟨R,hg,hw,hn,hR⟩:=h
 have hw':WR (K.at w1.drawn) R (w.tp t) (w.tp t):=W0.wr (⟨hw.fn,hw.inj,hw.obj,hw.fz,hw.glob,hw.big,hw.big'⟩:W0 K R (w.tp t) (w.tp t)) _ fun _ _ _=>rfl
 refine ⟨qeO (Z.at _) hw' hR (hg.at _) hl hs (Nat.le_refl _),fun hb=>?_⟩
 obtain ⟨h1,h2⟩:=jf (m':=m) (Z.at _) (show yE (w.tp t) from hn) hw' hR (hg.at _) hl hs rfl
 rcases h2 with h2 | ⟨R1,g1',w1',es',e,h2,h3,h4,_⟩
 ·exact absurd h2 hb
 ·rw [hs] at e
  simp only [GStep.go.injEq] at e
  obtain ⟨rfl,rfl,_⟩:=e
  rcases h2 with h2 | ⟨_,_,_,_,_,h,_⟩
  ·exact ⟨R1,h2.un,h3.w0,h1,fun n hn=>h4.le _ _ (hR n hn)⟩
  ·exact h.elim
theorem LT.mk_step {q:Goroutine} {w:World} (hl:¬ Leaves q) (h:∀t,∃g1 w1 es,stepG P' m q (w.tp t)=.go g1 w1 es∧¬ Bad g1∧LT P' m Fin g1 w1):LT P' m Fin q w:=by
 exact .step hl (fun t=>((h t).choose,(h t).choose_spec.choose)) (fun t=>⟨(h t).choose_spec.choose_spec.choose,(h t).choose_spec.choose_spec.choose_spec.1,(h t).choose_spec.choose_spec.choose_spec.2.1⟩) fun t=>(h t).choose_spec.choose_spec.choose_spec.2.2
theorem least {p:Nat→Prop} (h:∃n,p n):∃n,p n∧∀k,k < n→¬ p k:=by
 obtain ⟨n,hn⟩:=h
 induction n using Nat.strongRecOn with
 | _ n ih =>
   rcases Classical.em (∃k,k < n∧p k) with ⟨k,hk,hp⟩ | hc
   ·exact ih k hk hp
   ·exact ⟨n,hn,fun k hk hp=>hc ⟨k,hk,hp⟩⟩
theorem LT.of_reach (Z:Cov K P' P' c g (fun _=>False)) (hF:∀q w t,Fin q w→Fin q (w.tp t)) {q0:Goroutine} {w0:World} (h0:YH K P' g q0 w0) (hr:∀t,Reach P' m Fin q0 (w0.tp t)):LT P' m Fin q0 w0:=by
 classical
 refine Classical.byContradiction fun hno=>?_
 let St:={ s:Goroutine×World // YH K P' g s.1 s.2∧¬ LT P' m Fin s.1 s.2 }
 have nxt:∀s:St,∃(t:Nat→Question→Nat) (s':St),¬ Leaves s.1.1→∀g1 w1 es,stepG P' m s.1.1 (s.1.2.tp t)=.go g1 w1 es→¬ Bad g1→s'.1=(g1,w1):=by
  intro s
  by_cases hl:Leaves s.1.1
  ·exact ⟨fun _ _=>0,s,fun h=>absurd hl h⟩
  ·have:∃t,∀g1 w1 es,stepG P' m s.1.1 (s.1.2.tp t)=.go g1 w1 es→¬ Bad g1→¬ LT P' m Fin g1 w1:=by
    refine Classical.byContradiction fun hc=>s.2.2 (LT.mk_step hl fun t=>?_)
    have h1:=not_exists.1 hc t
    refine Classical.byContradiction fun hc2=>h1 fun g1 w1 es e1 e2 e3=>hc2 ⟨g1,w1,es,e1,e2,e3⟩
   obtain ⟨t,ht⟩:=this
   by_cases hg:∃g1 w1 es,stepG P' m s.1.1 (s.1.2.tp t)=.go g1 w1 es∧¬ Bad g1
   ·obtain ⟨g1,w1,es,e1,e2⟩:=hg
    refine ⟨t,⟨(g1,w1),(s.2.1.turn Z hl t e1).2 e2,ht g1 w1 es e1 e2⟩,fun _ g2 w2 es2 e3 _=>?_⟩
    rw [e1] at e3
    simp only [GStep.go.injEq] at e3
    obtain ⟨rfl,rfl,_⟩:=e3
    rfl
   ·exact ⟨t,s,fun _ g1 w1 es e1 e2=>absurd ⟨g1,w1,es,e1,e2⟩ hg⟩
 let tau:St→Nat→Question→Nat:=fun s=>(nxt s).choose
 let suc:St→St:=fun s=>(nxt s).choose_spec.choose
 have hsuc:∀s:St,¬ Leaves s.1.1→∀g1 w1 es,stepG P' m s.1.1 (s.1.2.tp (tau s))=.go g1 w1 es→¬ Bad g1→(suc s).1=(g1,w1):=fun s=>(nxt s).choose_spec.choose_spec
 let sq:Nat→St:=fun n=>Nat.rec ⟨(q0,w0),h0,hno⟩ (fun _ s=>suc s) n
 have sq0:(sq 0).1=(q0,w0):=rfl
 have sqs:∀n,sq (n+1)=suc (sq n):=fun n=>rfl
 let D:Nat→Nat:=fun n=>(sq n).1.2.drawn
 let Al:Nat→Prop:=fun n=>¬ Leaves (sq n).1.1∧∃g1 w1 es,stepG P' m (sq n).1.1 ((sq n).1.2.tp (tau (sq n)))=.go g1 w1 es∧¬ Bad g1
 have al:∀n,Al n→∃es,stepG P' m (sq n).1.1 ((sq n).1.2.tp (tau (sq n)))=.go (sq (n+1)).1.1 (sq (n+1)).1.2 es:=by
  rintro n ⟨h1,g1,w1,es,e1,e2⟩
  have:=hsuc (sq n) h1 g1 w1 es e1 e2
  rw [sqs,this]
  exact ⟨es,e1⟩
 have mono:∀n,Al n→D n≤D (n+1):=by
  intro n h
  obtain ⟨es,e⟩:=al n h
  exact (((sq n).2.1.turn Z h.1 (tau (sq n)) e).1 (tau (sq n)) fun _ _ _ _=>rfl).1
 have monos:∀n i,i≤n→(∀j,j < n→Al j)→D i≤D n:=by
  intro n
  induction n with
  | zero=>intro i hi _;obtain rfl:i=0:=by omega
          exact Nat.le_refl _
  | succ n ih =>
    intro i hi hA
    rcases Nat.lt_or_ge i (n+1) with h | h
    ·exact Nat.le_trans (ih i (by omega) fun j hj=>hA j (by omega)) (mono n (hA n (by omega)))
    ·obtain rfl:i=n+1:=by omega
     exact Nat.le_refl _
 let In:Nat→Nat→Prop:=fun i n=>D n≤i∧(i < D (n+1)∨¬ Al n)
 let ts:Nat→Question→Nat:=fun i x=>if h:∃n,In i n then tau (sq (least h).choose) i x else 0
 have tsE:∀n i x,(∀j,j < n→Al j)→In i n→ts i x=tau (sq n) i x:=by
  intro n i x hA hi
  have hex:∃n,In i n:=⟨n,hi⟩
  have hf:(least hex).choose=n:=by
   obtain ⟨h3,h1⟩:=(least hex).choose_spec
   revert h3 h1
   generalize (least hex).choose=k
   intro h3 h1
   rcases Nat.lt_trichotomy k n with h2 | h2 | h2
   ·have h4:=monos n (k+1) (by omega) hA
    rcases h3.2 with h5 | h5
    ·have:=hi.1
     omega
    ·exact absurd (hA _ h2) h5
   ·exact h2
   ·exact absurd hi (h1 n h2)
  simp only [ts,dif_pos hex,hf]
 have fin:∀q w,Reach P' m Fin q w→∀n,(∀j,j < n→Al j)→q=(sq n).1.1→w=(sq n).1.2.tp ts→False:=by
  intro q w hq
  induction hq with
  | fin hl hf =>
    rintro n hA rfl rfl
    exact (sq n).2.2 (.fin hl fun t=>hF _ ((sq n).1.2.tp ts) t hf)
  | @step q g1 w w1 es hl hs hr ih =>
    rintro n hA rfl rfl
    have hnb:¬ Bad g1:=by
     obtain ⟨R,hg,hw,hn,hR⟩:=(sq n).2.1
     refine hr.notBad ?_
     have hw':WR (K.at w1.drawn) R ((sq n).1.2.tp ts) ((sq n).1.2.tp ts):=W0.wr (⟨hw.fn,hw.inj,hw.obj,hw.fz,hw.glob,hw.big,hw.big'⟩:W0 K R ((sq n).1.2.tp ts) ((sq n).1.2.tp ts)) _ fun _ _ _=>rfl
     exact (jf (m':=m) (Z.at _) (show yE ((sq n).1.2.tp ts) from hn) hw' hR (hg.at _) hl hs rfl).1
    have hAn:Al n:=by
     refine Classical.byContradiction fun hna=>hna ⟨hl,?_⟩
     have hh:=((sq n).2.1.turn Z hl ts hs).1 (tau (sq n)) fun i x h1 h2=>(tsE n i x hA ⟨h1,.inr hna⟩).symm
     obtain ⟨_,es',h'⟩:=hh
     exact ⟨g1,_,es',h',hnb⟩
    obtain ⟨es2,e2⟩:=al n hAn
    have hh:=((sq n).2.1.turn Z hl (tau (sq n)) e2).1 ts fun i x h1 h2=>tsE n i x hA ⟨h1,.inl h2⟩
    obtain ⟨_,es',h'⟩:=hh
    have h':stepG P' m (sq n).1.1 ((sq n).1.2.tp ts)=.go (sq (n+1)).1.1 ((sq (n+1)).1.2.tp ts) es':=h'
    rw [hs] at h'
    simp only [GStep.go.injEq] at h'
    exact ih (n+1) (fun j hj=>by
     rcases Nat.lt_or_ge j n with h | h
     ·exact hA j h
     ·obtain rfl:j=n:=by omega
      exact hAn) h'.1 h'.2.1
 exact fin _ _ (hr ts) 0 (fun j hj=>by omega) rfl rfl
end
end Go.Sim
