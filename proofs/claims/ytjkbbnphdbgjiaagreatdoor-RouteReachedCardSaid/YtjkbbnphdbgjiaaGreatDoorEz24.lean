/-
  Lemmas about the program and the machine (SimRun to SimDn), upon which the last text of this claim rests; no condition.
-/
import Derived.Conc.Own
import Derived.Conc.Listed
import Derived.Conc.Beside
import Derived.Conc.CompanyWords
import Derived.Conc.Own4
import Derived.Test.YtjkbbnphdbgjiaaGreatDoorEz23
set_option linter.unusedSimpArgs false
set_option linter.unusedVariables false
namespace Go.Sim
open Go Go.Instr
section
variable {K:Cfg} {P' P:Program} {R:Nat->Nat->Prop}
theorem qh.extract{x x':Value}(i:Nat)(hx:VR K.C R x x'):qh K P' P R (Instr.extract x i) (Instr.extract x' i) (fun R1 x y=>VR K.C R1 x y):=by
 unfold Instr.extract
 cases hx<;>first
  | exact .stuck
  | skip
 rename_i xs xs' s e;have h:AR K.C R xs xs':=⟨s,e⟩;dsimp only
 cases e1:xs[i]? with
 | none=>exact .stuck
 | some v=>obtain⟨v',e2,hv⟩:=h.get e1;rw[e2];exact .pure hv
theorem qh.makeMap(t:TypeId):qh K P' P R (Instr.makeMap t none) (Instr.makeMap t none) (fun R1 x y=>VR K.C R1 x y):=by
 unfold Instr.makeMap;exact(qh.newObj (.map 0 rfl fun i e e' x=>by simp at x)).bind fun R1 r r' _ hr=>.pure (.map hr)
theorem qh.index(S:Same P' P)(t:TypeId){x x' i i':Value}(hx:VR K.C R x x')(hi:VR K.C R i i'):qh K P' P R (Instr.index t x i) (Instr.index t x' i') (fun R1 x y=>VR K.C R1 x y):=by
 unfold Instr.index;refine(qh.asIntOf hi).bind fun R1 ki ki' h1 e=>?_;subst e;obtain⟨k,n⟩:=ki';dsimp only;refine(qh.underlying S t).bind fun R2 d d' h2 e=>?_;obtain⟨rfl,_⟩:=e;replace hx:=(hx.mono h1).mono h2
 cases d' with
 | array len el =>
   cases hx<;>first
    | exact .stuck
    | skip
   rename_i xs xs' s e;have h:AR K.C R2 xs xs':=⟨s,e⟩;dsimp only;split
   ·refine(qh.sizeOf S el).bind fun R3 m m' h3 e=>?_;subst e;exact qh.part S el _ (h.mono h3)
   ·exact .boundsPanic
 | string =>
   cases hx<;>first
    | exact .stuck
    | skip
   rename_i s;dsimp only;split
   ·exact .pure (.int _ _)
   ·exact .boundsPanic
 | _=>exact .stuck
theorem qh.field(S:Same P' P)(t:TypeId)(i:Nat){x x':Value}(hx:VR K.C R x x'):qh K P' P R (Instr.field t x i) (Instr.field t x' i) (fun R1 x y=>VR K.C R1 x y):=by
 unfold Instr.field;refine(qh.underlying S t).bind fun R2 d d' h2 e=>?_;obtain⟨rfl,_⟩:=e;replace hx:=hx.mono h2
 cases d'<;>first
  | exact .stuck
  | skip
 rename_i fs _;dsimp only
 cases fs[i]? with
 | none=>exact .stuck
 | some f =>
   dsimp only;exact(qh.asAgg hx).bind fun R3 u u' h3 hu=>qh.part S f.type f.offset hu
theorem qh.sliceBound{x x':Value}(y:Nat)(c:BoundsCode)(hx:VR K.C R x x'):qh K P' P R (Instr.sliceBound x y c) (Instr.sliceBound x' y c) (fun _ x y=>y=x):=by
 unfold Instr.sliceBound;refine(qh.asIntOf hx).bind fun R1 ki ki' h1 e=>?_;subst e;obtain⟨k,n⟩:=ki';dsimp only;split
 ·exact .pure rfl
 ·exact .boundsPanic
theorem qh.sliceBound0{x x':Value}(c:BoundsCode)(hx:VR K.C R x x'):qh K P' P R (Instr.sliceBound x 0 c) (Instr.sliceBound x' 0 c) (fun _ x y=>y=x/\x=0):=by
 unfold Instr.sliceBound;refine(qh.asIntOf hx).bind fun R1 ki ki' h1 e=>?_;subst e;obtain⟨k,n⟩:=ki';dsimp only;split
 ·exact .pure ⟨rfl,by omega⟩
 ·exact .boundsPanic
def OVR(C:FuncId->Prop)(R:Nat->Nat->Prop)(x y:Option Value):Prop:=(x=none/\y=none)\/∃v v',x=some v/\y=some v'/\VR C R v v'
theorem OVR.mono{C:FuncId->Prop}{R R1:Nat->Nat->Prop}(h:∀b c,R b c->R1 b c){x y:Option Value}(o:OVR C R x y):OVR C R1 x y :=
 o.imp id fun⟨v,v',a,b,c⟩=>⟨v,v',a,b,c.mono h⟩
theorem qh.sliceBounds(isS:Bool)(len cap:Nat){l l' h h' m m':Option Value}(hl:OVR K.C R l l')(hh:OVR K.C R h h')(hm:OVR K.C R m m') :
 qh K P' P R (Instr.sliceBounds isS len cap l h m) (Instr.sliceBounds isS len cap l' h' m') (fun _ x y=>y=x):=by
 unfold Instr.sliceBounds;rcases hm with⟨rfl,rfl⟩|⟨mv,mv',rfl,rfl,hm⟩
 ·dsimp only;refine qh.bind (Q:=fun _ x y=>y=x) (.pure rfl) fun R1 a a' h1 e=>?_;subst e;rcases hh with⟨rfl,rfl⟩|⟨v,v',rfl,rfl,hh⟩
  ·refine qh.bind (Q:=fun _ x y=>y=x) (.pure rfl) fun R2 b b' h2 e=>?_;subst e;rcases hl with⟨rfl,rfl⟩|⟨v,v',rfl,rfl,hl⟩
   ·exact .pure rfl
   ·refine(qh.sliceBound _ _ ((hl.mono h1).mono h2)).bind fun R3 c c' _ e=>?_;subst e;exact .pure rfl
  ·refine(qh.sliceBound _ _ (hh.mono h1)).bind fun R2 b b' h2 e=>?_;subst e;rcases hl with⟨rfl,rfl⟩|⟨v,v',rfl,rfl,hl⟩
   ·exact .pure rfl
   ·refine(qh.sliceBound _ _ ((hl.mono h1).mono h2)).bind fun R3 c c' _ e=>?_;subst e;exact .pure rfl
 ·dsimp only;refine(qh.sliceBound _ _ hm).bind fun R1 a a' h1 e=>?_;subst e;rcases hh with⟨rfl,rfl⟩|⟨v,v',rfl,rfl,hh⟩
  ·exact qh.halted
  ·refine(qh.sliceBound _ _ (hh.mono h1)).bind fun R2 b b' h2 e=>?_;subst e;rcases hl with⟨rfl,rfl⟩|⟨v,v',rfl,rfl,hl⟩
   ·exact .pure rfl
   ·refine(qh.sliceBound _ _ ((hl.mono h1).mono h2)).bind fun R3 c c' _ e=>?_;subst e;exact .pure rfl
theorem qh.sliceBounds0(isS:Bool){l l' h h' m m':Option Value}(hl:OVR K.C R l l')(hh:OVR K.C R h h')(hm:OVR K.C R m m') :
 qh K P' P R (Instr.sliceBounds isS 0 0 l h m) (Instr.sliceBounds isS 0 0 l' h' m') (fun _ x y=>y=x/\x=(0,0,0)):=by
 unfold Instr.sliceBounds;rcases hm with⟨rfl,rfl⟩|⟨mv,mv',rfl,rfl,hm⟩
 ·dsimp only;refine qh.bind (Q:=fun _ x y=>y=x/\x=0) (.pure ⟨rfl,rfl⟩) fun R1 a a' h1 e=>?_;obtain⟨rfl,rfl⟩:=e;rcases hh with⟨rfl,rfl⟩|⟨v,v',rfl,rfl,hh⟩
  ·refine qh.bind (Q:=fun _ x y=>y=x/\x=0) (.pure ⟨rfl,rfl⟩) fun R2 b b' h2 e=>?_;obtain⟨rfl,rfl⟩:=e;rcases hl with⟨rfl,rfl⟩|⟨v,v',rfl,rfl,hl⟩
   ·exact .pure ⟨rfl,rfl⟩
   ·refine(qh.sliceBound0 _ ((hl.mono h1).mono h2)).bind fun R3 c c' _ e=>?_;obtain⟨rfl,rfl⟩:=e;exact .pure ⟨rfl,rfl⟩
  ·refine(qh.sliceBound0 _ (hh.mono h1)).bind fun R2 b b' h2 e=>?_;obtain⟨rfl,rfl⟩:=e;rcases hl with⟨rfl,rfl⟩|⟨v,v',rfl,rfl,hl⟩
   ·exact .pure ⟨rfl,rfl⟩
   ·refine(qh.sliceBound0 _ ((hl.mono h1).mono h2)).bind fun R3 c c' _ e=>?_;obtain⟨rfl,rfl⟩:=e;exact .pure ⟨rfl,rfl⟩
 ·dsimp only;refine(qh.sliceBound0 _ hm).bind fun R1 a a' h1 e=>?_;obtain⟨rfl,rfl⟩:=e;rcases hh with⟨rfl,rfl⟩|⟨v,v',rfl,rfl,hh⟩
  ·exact qh.halted
  ·refine(qh.sliceBound0 _ (hh.mono h1)).bind fun R2 b b' h2 e=>?_;obtain⟨rfl,rfl⟩:=e;rcases hl with⟨rfl,rfl⟩|⟨v,v',rfl,rfl,hl⟩
   ·exact .pure ⟨rfl,rfl⟩
   ·refine(qh.sliceBound0 _ ((hl.mono h1).mono h2)).bind fun R3 c c' _ e=>?_;obtain⟨rfl,rfl⟩:=e;exact .pure ⟨rfl,rfl⟩
theorem qh.sliceAt(S:Same P' P)(t:TypeId){x x':Value}{l l' h h' m m':Option Value}(hx:VR K.C R x x')(hl:OVR K.C R l l')(hh:OVR K.C R h h')(hm:OVR K.C R m m') :
 qh K P' P R (Instr.sliceAt t x l h m) (Instr.sliceAt t x' l' h' m') (fun R1 x y=>VR K.C R1 x y):=by
 have inner:∀{R1:Nat->Nat->Prop},(∀b c,R b c->R1 b c)->qh K P' P R1 (Instr.slice t x l h m) (Instr.slice t x' l' h' m') (fun R1 x y=>VR K.C R1 x y):=by
  intro R1 hR;replace hx:=hx.mono hR;replace hl:=hl.mono hR;replace hh:=hh.mono hR;replace hm:=hm.mono hR;unfold Instr.slice;refine(qh.underlying S t).bind fun R2 d d' h2 e=>?_;obtain⟨rfl,_⟩:=e;replace hx:=hx.mono h2;replace hl:=hl.mono h2;replace hh:=hh.mono h2;replace hm:=hm.mono h2
  cases d' with
  | string =>
    cases hx<;>first
     | exact .stuck
     | skip
    dsimp only;rcases hm with⟨rfl,rfl⟩|⟨mv,mv',rfl,rfl,hm⟩
    ·refine(qh.sliceBounds false _ _ hl hh (.inl ⟨rfl,rfl⟩)).bind fun R3 a a' h3 e=>?_;subst e;exact .pure (.string _)
    ·exact qh.halted
  | slice el =>
    cases hx with
    | snil len cap =>
      dsimp only;refine(qh.sliceBounds true len cap hl hh hm).bind fun R3 a a' h3 e=>?_;subst e;refine(qh.sizeOf S el).bind fun R4 s s' h4 e=>?_;subst e;refine .pure ?_;split<;>exact .snil _ _
    | slice len cap ha =>
      dsimp only;refine(qh.sliceBounds true len cap hl hh hm).bind fun R3 a a' h3 e=>?_;subst e;refine(qh.sizeOf S el).bind fun R4 s s' h4 e=>?_;subst e;refine .pure ?_;split
      ·exact .slice _ _ ((ha.mono h3).mono h4)
      ·exact .slice _ _ (((ha.mono h3).mono h4).add _)
    | zcap a =>
      dsimp only;refine(qh.sliceBounds0 true hl hh hm).bind fun R3 b b' h3 e=>?_;obtain⟨rfl,rfl⟩:=e;refine(qh.sizeOf S el).bind fun R4 s s' h4 e=>?_;subst e;refine .pure ?_;exact .zcap a
    | _=>exact .stuck
  | pointer arr =>
    have tail:∀{R3:Nat->Nat->Prop} {a a':Addr},(∀b c,R2 b c->R3 b c)->qW R3 a a'->qh K P' P R3
     (do let .array n elem <-Go.underlying arr|Go.stuck "Slice: array type expected"
         let (l,h,m) <-Instr.sliceBounds false n n l h m
         let size <-Go.sizeOf elem
         Pure.pure (Value.slice (some (if m=l then a else a.add (l*size))) (h-l) (m-l)))
     (do let .array n elem <-Go.underlying arr|Go.stuck "Slice: array type expected"
         let (l,h,m) <-Instr.sliceBounds false n n l' h' m'
         let size <-Go.sizeOf elem
         Pure.pure (Value.slice (some (if m=l then a' else a'.add (l*size))) (h-l) (m-l))) (fun R1 x y=>VR K.C R1 x y):=by
     intro R3 a a' h3 ha;refine(qh.underlying S arr).bind fun R4 e1 e2 h4 e=>?_;obtain⟨rfl,_⟩:=e
     cases e2 with
     | array n elem =>
       dsimp only;refine(qh.sliceBounds false n n ((hl.mono h3).mono h4) ((hh.mono h3).mono h4) ((hm.mono h3).mono h4)).bind fun R5 b b' h5 e=>?_;subst e;refine(qh.sizeOf S elem).bind fun R6 s s' h6 e=>?_;subst e;refine .pure ?_;have ha6:=((ha.mono h4).mono h5).mono h6;split
       ·exact .slice _ _ ha6
       ·exact .slice _ _ (ha6.add _)
     | _=>exact .stuck
    have go:=(qh.asAddr (P':=P') (P:=P) hx).bind (Q':=fun R1 x y=>VR K.C R1 x y) fun R3 a a' h3 ha=>tail h3 ha;cases hx<;>exact go
  | _=>exact .stuck
 unfold Instr.sliceAt;refine(qh.underlying S t).bind fun R1 d d' h1 e=>?_;obtain⟨rfl,_⟩:=e
 cases d' with
 | array n elem =>
   dsimp only;refine(qh.sureAddr (hx.mono h1)).bind fun R2 a a' h2 ha=>?_;refine(qh.sliceBounds false n n ((hl.mono h1).mono h2) ((hh.mono h1).mono h2) ((hm.mono h1).mono h2)).bind fun R3 b b' h3 e=>?_;subst e;refine(qh.sizeOf S elem).bind fun R4 s s' h4 e=>?_;subst e;refine .pure ?_;have ha4:=(ha.mono h3).mono h4;split
   ·exact .slice _ _ ha4
   ·exact .slice _ _ (ha4.add _)
 | _=>exact inner h1
theorem qh.makeSlice(S:Same P' P)(t:TypeId){l l' c c':Value}(hl:VR K.C R l l')(hc:VR K.C R c c'):qh K P' P R (Instr.makeSlice t l c) (Instr.makeSlice t l' c') (fun R1 x y=>VR K.C R1 x y):=by
 unfold Instr.makeSlice;refine(qh.underlying S t).bind fun R1 d d' h1 e=>?_;obtain⟨rfl,_⟩:=e
 cases d' with
 | slice el =>
   refine(qh.asInt (hl.mono h1)).bind fun R2 n n' h2 e=>?_;subst e;refine(qh.asInt ((hc.mono h1).mono h2)).bind fun R3 m m' h3 e=>?_;subst e;refine(qh.typeInfo S el).bind fun R4 i i' h4 e=>?_;obtain⟨rfl,_⟩:=e;dsimp only;split
   ·split
    ·exact qh.panicked
    ·split
     ·exact qh.panicked
     ·exact(qh.choose _).bind fun _ _ _ _ _=>qh.panicked
   ·refine(qh.askRoom _).bind fun R5 _ _ h5 _=>?_;refine(qh.sizeOf S el).bind fun R6 s s' h6 e=>?_;subst e;split
    ·refine(qh.pure (Q:=fun R1 x y=>AR K.C R1 x y) AR.nil).bind fun R7 z z' h7 hz=>?_;exact(qh.newRow el (hz.rows _)).bind fun R8 a a' _ ha=>.pure (.slice _ _ ha)
    ·refine(qh.zeroValue S el).bind fun R7 z z' h7 e=>?_;refine(qh.pure (Q:=fun R1 x y=>AR K.C R1 x y) e.2.cells).bind fun R8 z z' h8 hz=>?_;exact(qh.newRow el (hz.rows _)).bind fun R8 a a' _ ha=>.pure (.slice _ _ ha)
 | _=>exact .stuck
theorem qh.len(S:Same P' P)(ts:Array TypeId)(t:TypeId){xs xs':Array Value}(h:AR K.C R xs xs'):qh K P' P R (Builtin.len_ ts t xs) (Builtin.len_ ts t xs') (fun R1 x y=>VR K.C R1 x y):=by
 unfold Builtin.len_
 cases e1:ts[0]? with
 | none=>exact .stuck
 | some u =>
   cases e2:xs[0]? with
   | none=>exact .stuck
   | some v =>
     obtain⟨v',e3,hv⟩:=h.get e2;rw[e3];dsimp only;refine(qh.underlying S u).bind fun R1 d d' h1 e=>?_;obtain⟨rfl,_⟩:=e;replace hv:=hv.mono h1
     cases d' with
     | pointer arr =>
       have go:qh K P' P R1 (do
        let .array n _ <-Go.underlying arr|Go.stuck "len: pointer to array expected"
        Pure.pure (Go.goInt n)) (do
        let .array n _ <-Go.underlying arr|Go.stuck "len: pointer to array expected"
        Pure.pure (Go.goInt n)) (fun R1 x y=>VR K.C R1 x y):=by
        refine(qh.underlying S arr).bind fun R2 d d' h2 e=>?_;obtain⟨rfl,_⟩:=e
        cases d'<;>first
         | exact .stuck
         | exact .pure (.int _ _)
       cases hv<;>exact go
     | map kt et =>
       cases hv<;>first
        | exact .stuck
        | exact .pure (.int _ _)
        | skip
       rename_i r r' hr;dsimp only;refine(qh.getObj hr).bind fun R2 o o' h2 ho=>?_;obtain⟨ho,_⟩:=ho
       cases ho with
       | map k s e=>dsimp only;rw[s];exact .pure (.int _ _)
       | _=>exact .stuck
     | _=>cases hv<;>first|exact .stuck|exact .pure (.int _ _)
theorem qh.firstCells{x x':Value}(size n:Nat)(hn:∀a,x=.slice (some a) 0 0->n=0)(hx:VR K.C R x x'):qh K P' P R (Builtin.firstCells size n x) (Builtin.firstCells size n x') (fun R1 a b=>AR K.C R1 a b):=by
 unfold Builtin.firstCells
 cases hx<;>first
  | exact .stuck
  | exact .pure .nil
  | exact .pure (AR.map _ fun _ _=>.int _ _)
  | skip
 ·exact qh.loadCells _ (by assumption)
 ·obtain rfl:=hn _ rfl;rw[Nat.zero_mul];exact .pure .nil
theorem qh.firstCells0{x x':Value}(size:Nat)(hx:VR K.C R x x'):qh K P' P R (Builtin.firstCells size 0 x) (Builtin.firstCells size 0 x') (fun _ a b=>a=#[]/\b=#[]):=by
 unfold Builtin.firstCells
 cases hx<;>first
  | exact .stuck
  | exact .pure ⟨rfl,rfl⟩
  | (rw[Nat.zero_mul];exact .pure ⟨rfl,rfl⟩)
  | exact .pure (by simp)
theorem qh.lenOf{x x':Value}(hx:VR K.C R x x'):qh K P' P R (Builtin.lenOf x) (Builtin.lenOf x') (fun _ a b=>b=a/\∀ad,x=.slice (some ad) 0 0->a=0):=by
 unfold Builtin.lenOf
 cases hx<;>first
  | exact .stuck
  | exact .pure ⟨rfl,fun ad e=>by cases e<;>rfl⟩
  | exact .pure ⟨rfl,fun ad e=>by cases e⟩
theorem AR.zeroCells{C:FuncId->Prop}{z z':Array Value}(h:AR C R z z')(n:Nat):AR C R (Builtin.zeroCells z n) (Builtin.zeroCells z' n):=by
 unfold Builtin.zeroCells;rw[h.size];exact AR.map _ fun i _=>h.getBang _ VR.default
def appB(P:Program)(ts:Array TypeId):Bool :=
 match ts[1]? with
 | some t=>(match P.underlying t with|some (.slice _)|some .string=>true|_=>false)
 | none=>false
theorem QA(a:Addr)(n:Nat)(P:Program)(w:World):∃b,(Builtin.holdsCells a n).run P w=.ok b w:=by
 unfold Builtin.holdsCells;rw[Sem.run_bind,run_shape,Result.andThen_ok]
 cases w.shape? a.block with
 | none=>exact⟨_,rfl⟩
 | some x=>exact⟨_,rfl⟩
theorem jG(a:Addr)(n:Nat):zD (Builtin.holdsCells a n):=by
 unfold Builtin.holdsCells;refine zD.bind (fun _=>trivial) fun x=>?_
 first
  | exact trivial
  | (split<;>exact trivial)
theorem Xq(size sLen n:Nat)(base:Option Addr)(x:Value):zD (Builtin.mayShare size sLen n base x):=by
 unfold Builtin.mayShare
 have tail:∀(there:Bool),zD (if !there then(Pure.pure true:Sem Bool)else match x with
  | .slice (some b) _ _=>do Pure.pure (!(<-Builtin.holdsCells b (n*size))||base.any (·.block==b.block))
  | _=>Pure.pure false):=fun there=>by
  split
  ·exact trivial
  ·split
   ·exact zD.bind (jG _ _) fun _=>trivial
   ·exact trivial
 cases base with
 | none=>exact tail true
 | some a =>
   dsimp only;refine zD.bind (jG _ _) fun b=>?_;refine zD.bind ?_ fun c=>tail _
   first
    | exact fun _=>trivial
    | exact trivial
theorem qak(size sLen n:Nat)(base:Option Addr)(x:Value)(P:Program)(w:World):∃b,(Builtin.mayShare size sLen n base x).run P w=.ok b w:=by
 unfold Builtin.mayShare
 have tail:∀(there:Bool),∃b,(if !there then(Pure.pure true:Sem Bool)else match x with
  | .slice (some b) _ _=>do Pure.pure (!(<-Builtin.holdsCells b (n*size))||base.any (·.block==b.block))
  | _=>Pure.pure false).run P w=.ok b w:=fun there=>by
  split
  ·exact⟨_,rfl⟩
  ·split
   ·obtain⟨b,hb⟩:=QA ‹Addr› (n*size) P w;rw[Sem.run_bind,hb];exact⟨_,rfl⟩
   ·exact⟨_,rfl⟩
 cases base with
 | none=>exact tail true
 | some a =>
   dsimp only;obtain⟨b,hb⟩:=QA a (sLen*size) P w;rw[Sem.run_bind,hb,Result.andThen_ok,Sem.run_bind,run_frozen,Result.andThen_ok];exact tail _
theorem qh.append(S:Same P' P)(ts:Array TypeId)(t:TypeId)(ha:appB P ts=true){xs xs':Array Value}(h:AR K.C R xs xs'):qh K P' P R (Builtin.append_ ts t xs) (Builtin.append_ ts t xs') (fun R1 x y=>VR K.C R1 x y):=by
 unfold Builtin.append_
 cases e1:ts[0]? with
 | none=>exact .stuck
 | some u =>
 cases e2:xs[0]? with
 | none=>exact .stuck
 | some v =>
 cases e4:xs[1]? with
 | none=>exact .stuck
 | some x =>
 obtain⟨v',e3,hv⟩:=h.get e2;obtain⟨x',e5,hx⟩:=h.get e4;rw[e3,e5];dsimp only;refine(qh.underlying S u).bind fun R1 d d' h1 e=>?_;obtain⟨rfl,_⟩:=e
 cases d'<;>first
  | exact .stuck
  | skip
 rename_i el;dsimp only
 cases e6:ts[1]? with
 | none=>simp only[appB,e6]at ha;exact absurd ha (by simp)
 | some xt =>
 simp only[appB,e6]at ha;replace hv:=hv.mono h1;replace hx:=hx.mono h1;have hs:=hv
 cases hv<;>first
  | exact .stuck
  | skip
 all_goals
  dsimp only;refine(qh.sizeOf S _).bind fun R2 s s' h2 e=>?_;subst e;refine(qh.underlying S xt).bind fun R3 d d' h3 e=>?_;obtain⟨rfl,hd⟩:=e;rw[hd]at ha;refine qh.bind (Q:=fun _ a b=>a=false/\b=false) (.pure (by cases d'<;>first|(simp at ha;done)|exact⟨rfl,rfl⟩)) fun R4 z z' h4 e=>?_;obtain⟨rfl,rfl⟩:=e;simp only[Bool.false_eq_true,if_false,false_or,Bool.not_false,if_true];refine(qh.lenOf (((hx.mono h2).mono h3).mono h4)).bind fun R5 n n' h5 e=>?_;obtain⟨rfl,hn0⟩:=e;have hx5:=(((hx.mono h2).mono h3).mono h4).mono h5;have hs5:=(((hs.mono h2).mono h3).mono h4).mono h5;split
  ·first
    | exact(qh.firstCells s' n' hn0 hx5).bind fun R6 c c' h6 hc=>.pure (.snil _ _)
    | (refine(qh.firstCells s' n' hn0 hx5).bind fun R6 c c' h6 hc=>?_
       have ha6:=((((‹qW R1 _ _›.mono h2).mono h3).mono h4).mono h5).mono h6
       exact(qh.storeCells _ _ 0 (ha6.add _) hc.toList.1 hc.toList.2).bind fun R7 _ _ h7 _=>.pure (.slice _ _ (ha6.mono h7)))
    | (obtain rfl:n'=0:=by omega
       refine(qh.firstCells0 s' hx5).bind fun R6 c c' h6 hc=>?_;obtain⟨rfl,rfl⟩:=hc;refine qh.bind (Q:=fun _ _ _=>True) ?_ fun _ _ _ _ _=>.pure (.zcap _)
       exact .pure trivial)
  ·refine(qh.typeInfo S _).bind fun R6 i i' h6 e=>?_;obtain⟨rfl,_⟩:=e;split
   ·exact qh.panicked
   ·refine(qh.typeInfo S _).bind fun R7 i i' h7 e=>?_;obtain⟨rfl,_⟩:=e;split
    ·refine qh.lost (fun P w=>?_) (by
      rw[bind_assoc];refine zD.bind (Xq _ _ _ _ _) fun b=>?_
      split<;>exact trivial)
     obtain⟨b,hb⟩:=qak s' _ n' _ x P w;rw[Sem.run_bind,Sem.run_bind,hb];simp only[Result.andThen_ok];split
     ·exact⟨_,w,rfl,.refl w rfl⟩
     ·exact⟨_,w,rfl,.refl w rfl⟩
    ·refine(qh.choose _).bind fun R8 nc nc' h8 e=>?_;subst e;refine(qh.typeInfo S _).bind fun R9 i i' h9 e=>?_;obtain⟨rfl,_⟩:=e;refine(qh.askRoom _).bind fun R10 _ _ h10 _=>?_;have hx10:=((((hx5.mono h6).mono h7).mono h8).mono h9).mono h10;have hs10:=((((hs5.mono h6).mono h7).mono h8).mono h9).mono h10;refine(qh.firstCells s' _ (fun a e=>by cases e<;>rfl) hs10).bind fun R11 c c' h11 hc=>?_;refine(qh.firstCells s' n' hn0 (hx10.mono h11)).bind fun R12 f f' h12 hf=>?_;refine(qh.zeroValue S _).bind fun R13 z z' h13 e=>?_;refine(qh.newRow _ (((hc.mono h12).mono h13).append (hf.mono h13) |>.append (e.2.cells.zeroCells _))).bind fun R14 a a' _ ha=>?_;exact .pure (.slice _ _ ha)
end
inductive NextR (K:Cfg) (R:Nat->Nat->Prop):Next->Next->Prop
 | value {v v':Value}:VR K.C R v v'->NextR K R (.value v) (.value v')
 | skip:NextR K R .skip .skip
 | enter (f:FuncId) {xs xs':Array Value}:K.C f->AR K.C R xs xs'->NextR K R (.enter f xs) (.enter f xs')
 | round {l l':Nat} (f:FuncId) {ts ts':Array Value} (a b:Code):R l l'->AR K.C R ts ts'->K.D f a->K.D f b->NextR K R (.round l f ts a b) (.round l' f ts' a b)
structure Progs (K:Cfg) (P' P:Program):Prop extends Same P' P where
 ng:K.ng=P.globals.size
 call:∀f,K.C f->∃fn' fn,P'.funcs[f]? = some fn'/\P.funcs[f]? = some fn/\(fn'.name == "runtime.NumGoroutine")=false/\(fn.name == "runtime.NumGoroutine")=false/\fn'.body.isNone=false/\fn.body.isNone=false
def zF(c g:Nat->Bool):Operand->Bool
 | .tmp _=>true
 | .const v=>zO 8 v
 | .global n=>g n
 | .func f=>c f
def mapB(P:Program)(t:TypeId):Bool:=match P.underlying t with|some (.map k _)=>eqT P 6 k|_=>false
def callB(P:Program)(c g:Nat->Bool)(k:Call):Bool :=
 k.args.all (zF c g)&&match k.callee with
 | .value f=>zF c g f
 | .builtin .len | .builtin .min | .builtin .max | .builtin .clear=>true
 | .builtin .append=>appB P k.argTypes
 | _=>false
def opB(P:Program)(c g:Nat->Bool):Op->Bool
 | .move x | .assign x | .box _ x | .load _ x | .unOp _ _ x | .extract x _ | .field _ x _=>zF c g x
 | .pick x a b=>zF c g x&&zF c g a&&zF c g b
 | .alloc _=>true
 | .build _ ps | .buildSlice _ _ ps=>ps.all fun p=>zF c g p.2
 | .store _ a v | .indexAddr _ a v | .index _ a v | .makeSlice _ a v=>zF c g a&&zF c g v
 | .binOp op t x y _=>zF c g x&&zF c g y&&(xA op||((op matches .eql | .neq)&&cmpB P t y))
 | .convert s d x=>convB P s d&&zF c g x
 | .makeFunc fn xs ys=>(match fn with | .func f=>c f|_=>false)&&xs.all (zF c g)&&ys.all (zF c g)
 | .makeMap _ none=>true
 | .slice _ x l h m=>zF c g x&&l.all (zF c g)&&h.all (zF c g)&&m.all (zF c g)
 | .fieldAddr s x i=>qex P s i&&zF c g x
 | .lookup t x i _=>mapB P t&&zF c g x&&zF c g i
 | .mapUpdate t m k x=>mapB P t&&zF c g m&&zF c g k&&zF c g x
 | .insert t m k x=>mapB P t&&zF c g m&&zF c g k&&zF c g x
 | .nilCheck x=>zF c g x
 | .call k=>callB P c g k
 | _=>false
section
variable {K:Cfg} {P' P:Program} {R:Nat->Nat->Prop}
theorem qh.v{s s':Sem Value}(h:qh K P' P R s s' (fun R1 x y=>VR K.C R1 x y)):qh K P' P R (do Pure.pure (Next.value (<-s))) (do Pure.pure (Next.value (<-s'))) (fun R1 x y=>NextR K R1 x y) :=
 h.bind fun _ _ _ _ e=>.pure (.value e)
theorem qh.u{s s':Sem Unit}(h:qh K P' P R s s' (fun _ _ _=>True)):qh K P' P R (do s;Pure.pure Next.skip) (do s';Pure.pure Next.skip) (fun R1 x y=>NextR K R1 x y) :=
 h.bind fun _ _ _ _ _=>.pure .skip
theorem jI.u{s s':Sem Unit}(h:jI K P' P R s s' (fun _ _ _=>True)):jI K P' P R (do s;Pure.pure Next.skip) (do s';Pure.pure Next.skip) (fun R1 x y=>NextR K R1 x y) :=
 h.pure (f:=fun _=>Next.skip) (f':=fun _=>Next.skip) fun _ _ _ _ _=>.skip
theorem qh.max2{x x' y y':Value}(hx:VR K.C R x x')(hy:VR K.C R y y'):qh K P' P R (Builtin.max2 x y) (Builtin.max2 x' y') (fun R1 a b=>VR K.C R1 a b):=by
 cases hx<;>cases hy<;>first
  | exact .stuck
  | exact .unsupported
  | exact .pure (.int _ _)
  | (unfold Builtin.max2
     refine(qh.strBin .geq _ _ 0).bind fun R1 a b h e=>?_;refine(qh.asBool e).bind fun R2 c d h2 e=>?_;subst e
     split<;>exact .pure (.string _))
theorem qh.min2{x x' y y':Value}(hx:VR K.C R x x')(hy:VR K.C R y y'):qh K P' P R (Builtin.min2 x y) (Builtin.min2 x' y') (fun R1 a b=>VR K.C R1 a b):=by
 cases hx<;>cases hy<;>first
  | exact .stuck
  | exact .unsupported
  | exact .pure (.int _ _)
  | (unfold Builtin.min2
     refine(qh.strBin .leq _ _ 0).bind fun R1 a b h e=>?_;refine(qh.asBool e).bind fun R2 c d h2 e=>?_;subst e
     split<;>exact .pure (.string _))
theorem qh.foldM{f:Value->Value->Sem Value}(hf:∀{R:Nat->Nat->Prop} {x x' y y':Value},VR K.C R x x'->VR K.C R y y'->qh K P' P R (f x y) (f x' y') (fun R1 a b=>VR K.C R1 a b)) :
 ∀(l l':List Value) {R:Nat->Nat->Prop} {x x':Value},l.length=l'.length->(∀(n:Nat) (x x':Value),l[n]? = some x->l'[n]? = some x'->VR K.C R x x')->VR K.C R x x'->qh K P' P R (l.foldlM f x) (l'.foldlM f x') (fun R1 a b=>VR K.C R1 a b)
 | [],[],_,_,_,_,_,h=>.pure h
 | [],_::_,_,_,_,h,_,_=>by simp at h
 | _::_,[],_,_,_,h,_,_=>by simp at h
 | a::l,a'::l',_,_,_,h,he,hx=>by
   simp only[List.foldlM_cons];exact(hf hx (he 0 a a' rfl rfl)).bind fun R1 y y' h1 hy=>qh.foldM hf l l' (by simpa using h) (fun n x x' p q=>(he (n+1) x x' (by simpa using p) (by simpa using q)).mono h1) hy
theorem qh.minmax(f:Value->Value->Sem Value)(m:String)(hf:∀{R:Nat->Nat->Prop} {x x' y y':Value},VR K.C R x x'->VR K.C R y y'->qh K P' P R (f x y) (f x' y') (fun R1 a b=>VR K.C R1 a b)){xs xs':Array Value}(h:AR K.C R xs xs') :
 qh K P' P R (match xs.toList with | []=>Go.stuck m|x::rest=>rest.foldlM f x) (match xs'.toList with | []=>Go.stuck m|x::rest=>rest.foldlM f x) (fun R1 a b=>VR K.C R1 a b):=by
 obtain⟨h1,h2⟩:=h.toList;revert h1 h2;generalize xs.toList=l;generalize xs'.toList=l';intro h1 h2
 cases l with
 | nil=>exact .stuck
 | cons a l=>cases l' with
   | nil=>simp at h1
   | cons a' l'=>exact qh.foldM hf l l' (by simpa using h1) (fun n x x' p q=>h2 (n+1) x x' (by simpa using p) (by simpa using q)) (h2 0 a a' rfl rfl)
theorem qh.callFunc(Z:Progs K P' P)(f:FuncId)(hf:K.C f){xs xs':Array Value}(h:AR K.C R xs xs'):qh K P' P R (Go.callFunc f xs) (Go.callFunc f xs') (fun R1 x y=>NextR K R1 x y):=by
 unfold Go.callFunc;refine qh.program ?_;obtain⟨fn',fn,e1,e2,n1,n2,b1,b2⟩:=Z.call f hf;simp only[e1,e2,n1,n2,b1,b2,Bool.false_eq_true,if_false];exact .pure (.enter f hf h)
theorem qh.getLoop{l l':Nat}(h:R l l'):qh K P' P R (Instr.getLoop l) (Instr.getLoop l') (fun R1 x y=>LoopR K.C K.D R1 x y):=by
 unfold Instr.getLoop;refine(qh.getObj h).bind fun R1 o o' h1 ho=>?_;obtain⟨ho,_⟩:=ho
 cases ho<;>first
  | exact .stuck
  | exact .pure (by assumption)
theorem qgl{C:FuncId->Prop}:∀(ps:List Nat) (l l':List Value) {ts ts':Array Value},l.length=l'.length->(∀(n:Nat) (x x':Value),l[n]? = some x->l'[n]? = some x'->VR C R x x')->AR C R ts ts' ->
 AR C R ((ps.zip l).foldl (fun(t:Array Value) (p:Nat×Value)=>t.setIfInBounds p.1 p.2) ts) ((ps.zip l').foldl (fun(t:Array Value) (p:Nat×Value)=>t.setIfInBounds p.1 p.2) ts')
 | [],_,_,_,_,_,_,h=>by simpa using h
 | p::ps,[],[],_,_,_,_,h=>by simpa using h
 | p::ps,[],_::_,_,_,h,_,_=>by simp at h
 | p::ps,_::_,[],_,_,h,_,_=>by simp at h
 | p::ps,a::l,a'::l',_,_,h,he,ht=>by
   simp only[List.zip_cons_cons,List.foldl_cons];exact qgl ps l l' (by simpa using h) (fun n x x' p q=>he (n+1) x x' (by simpa using p) (by simpa using q)) (ht.set _ (he 0 a a' rfl rfl))
theorem qh.yld{l l':Nat}(h:R l l'){xs xs':Array Value}(hx:AR K.C R xs xs'):qh K P' P R (Instr.yield l xs) (Instr.yield l' xs') (fun R1 x y=>NextR K R1 x y):=by
 unfold Instr.yield;refine(qh.getLoop h).bind fun R1 r r' h1 hr=>?_;rw[hx.size,hr.params,hr.fn,hr.assign,hr.body];split
 ·exact qh.halted
 ·refine .pure (.round _ _ _ (h1 _ _ h) ?_ hr.okA hr.okB);rw[<-Array.foldl_toList,<-Array.foldl_toList,Array.toList_zip,Array.toList_zip];obtain⟨e1,e2⟩:=(hx.mono h1).toList;exact qgl _ _ _ e1 e2 hr.tmps
theorem qh.invokeValue(Z:Progs K P' P){v v':Value}(hv:VR K.C R v v'){xs xs':Array Value}(hx:AR K.C R xs xs') :
 qh K P' P R (do let d <-Deferred.ofValue v xs;Go.invoke d.target d.args) (do let d <-Deferred.ofValue v' xs';Go.invoke d.target d.args) (fun R1 x y=>NextR K R1 x y):=by
 cases hv with
 | func f hf s1 e1 s2 e2 =>
   rename_i fs fs' cs cs';have h1:AR K.C R fs fs':=⟨s1,e1⟩;have h2:AR K.C R cs cs':=⟨s2,e2⟩;show qh K P' P R (Go.callFunc f (fs++xs++cs)) (Go.callFunc f (fs'++xs'++cs')) _;exact qh.callFunc Z f hf ((h1.append hx).append h2)
 | yld hl =>
   rename_i l l';show qh K P' P R (Instr.yield l (#[]++xs)) (Instr.yield l' (#[]++xs')) _;exact qh.yld hl (AR.nil.append hx)
 | nilFunc=>exact qh.runtimePanic (e:=.nilDeref) (α:=Next)
 | meth n a b =>
   have e:(do let d <-Deferred.ofValue (.func (.method "") #[.nilIface] #[]) xs;Go.invoke d.target d.args)=Go.runtimePanic .nilDeref:=by
    show Go.invoke (.fn (.method "") #[]) (#[.nilIface]++xs)=_;have h0:(#[Value.nilIface]++xs)[0]? = some .nilIface:=(by simp[Array.getElem?_append]);simp only[Go.invoke,h0,Go.callMethod]
   rw[e];exact qh.runtimePanic
 | _=>exact .stuck
theorem qh.nilCheck{ρ ρ':Operand->Value}{o:Oper}{x:Operand}(ho:o.op=.nilCheck x)(hx:VR K.C R (ρ x) (ρ' x)):qh K P' P R (Go.execOp ρ o) (Go.execOp ρ' o) (fun R1 x y=>NextR K R1 x y):=by
 unfold Go.execOp;rw[ho];dsimp only;generalize ρ x=v at hx;generalize ρ' x=v' at hx;have hx0:=hx
 cases hx with
 | pnil=>exact .runtimePanic
 | nilIface=>exact .runtimePanic
 | nilFunc=>exact .runtimePanic
 | meth n a b=>exact .runtimePanic
 | junk h =>
   cases v' with
   | pointer a=>cases a with
     | none=>simp[xY]at h
     | some a=>exact .pure (.value hx0)
   | func f a b=>cases f<;>first|(exact .pure (.value hx0))|(simp[xY]at h;done)
   | _=>first|(exact .pure (.value hx0))|(simp[xY]at h;done)
 | _=>exact .pure (.value hx0)
theorem qh.clear(S:Same P' P)(ts:Array TypeId)(t:TypeId){xs xs':Array Value}(hx:AR K.C R xs xs'):qh K P' P R (Builtin.clear_ ts t xs) (Builtin.clear_ ts t xs') (fun R1 x y=>VR K.C R1 x y):=by
 unfold Builtin.clear_
 cases e0:ts[0]? with
 | none=>exact .stuck
 | some t0 =>
   cases e1:xs[0]? with
   | none=>exact .stuck
   | some x =>
     obtain⟨x',e2,hv⟩:=hx.get e1;rw[e2];dsimp only;refine(qh.underlying S t0).bind fun R1 d d' h1 e=>?_;obtain⟨rfl,_⟩:=e;replace hv:=hv.mono h1
     cases hv with
     | mnil=>exact .pure VR.undef
     | snil l c=>exact .pure VR.undef
     | zcap a=>exact .pure VR.undef
     | map hr =>
       refine(qh.getObj hr).bind fun R2 o o' h2 e=>?_;obtain⟨ho,hn⟩:=e
       cases ho with
       | map k hs he=>exact(qh.setObj (h2 _ _ hr) (OR.map (es:=#[]) (es':=#[]) k rfl fun i e e' x=>by simp at x) fun x e f hx=>by cases hx).bind fun _ _ _ _ _=>.pure VR.undef
       | _=>exact .halted
     | slice l c ha =>
       cases l with
       | zero=>exact .pure VR.undef
       | succ l =>
         cases d' with
         | slice el =>
           refine(qh.zeroValue S el).bind fun R2 z z' h2 e=>?_;have hz:=e.2.cells.zeroCells (l+1);refine(qh.storeCells _ _ 0 (ha.mono h2) ?_ ?_).bind fun _ _ _ _ _=>.pure VR.undef
           ·simpa using hz.size
           ·intro n x x' h h';exact hz.el n x x' (by simpa using h) (by simpa using h')
         | _=>exact .halted
     | _=>exact .halted
theorem qh.builtin(S:Same P' P)(b:Builtin)(ts:Array TypeId)(t:TypeId)(cs:Array Bool)(hb:(b=.len\/b=.min\/b=.max\/b=.clear)\/(b=.append/\appB P ts=true)){xs xs':Array Value}(hx:AR K.C R xs xs') :
 qh K P' P R (Go.builtin b ts t cs xs) (Go.builtin b ts t cs xs') (fun R1 x y=>NextR K R1 x y):=by
 rcases hb with(rfl|rfl|rfl|rfl)|⟨rfl,ha⟩
 ·exact(qh.len S ts t hx).v
 ·exact qh.v (by unfold Builtin.min_;exact qh.minmax _ _ (fun h k=>qh.min2 h k) hx)
 ·exact qh.v (by unfold Builtin.max_;exact qh.minmax _ _ (fun h k=>qh.max2 h k) hx)
 ·exact(qh.clear S ts t hx).v
 ·exact(qh.append S ts t ha hx).v
theorem all_opnd{c g:Nat->Bool}{xs:Array Operand}(h:xs.all (zF c g)=true):∀x∈xs,zF c g x=true:=by
 rw[Array.all_eq_true']at h;exact h
theorem qh.execOp(Z:Progs K P' P){c g:Nat->Bool}(hc:∀f,c f=true->K.C f){ρ ρ':Operand->Value}(o:Oper)(ho:opB P c g o.op=true)
 (hρ:∀{R1:Nat->Nat->Prop},(∀b d,R b d->R1 b d)->∀x,zF c g x=true->VR K.C R1 (ρ x) (ρ' x)) (hk:∀v,ρ (.const v)=v) :
 jI K P' P R (Go.execOp ρ o) (Go.execOp ρ' o) (fun R1 x y=>NextR K R1 x y):=by
 by_cases hnc:∃x,o.op=.nilCheck x
 ·obtain⟨x,hnc⟩:=hnc;refine qh.l (qh.nilCheck hnc (hρ (fun _ _ h=>h) x ?_));rw[hnc]at ho;exact ho
 by_cases hin:∃t m k x,o.op=.insert t m k x
 ·obtain⟨t,m,k,x,hmu⟩:=hin;have hr:∀x,zF c g x=true->VR K.C R (ρ x) (ρ' x):=hρ fun _ _ h=>h;rw[hmu]at ho;simp only[opB,Bool.and_eq_true]at ho;unfold Go.execOp;rw[hmu];dsimp only;obtain⟨⟨⟨h1,h2⟩,h3⟩,h4⟩:=ho;unfold mapB at h1;split at h1
  ·rename_i k' e hd;exact(qh.mapUpdate Z.toSame Z.ng (kt:=k') (fun k'' e' hk'=>by rw[hd]at hk';cases hk';rfl) h1 (hr _ h2) (hr _ h3) (hr _ h4)).u
  ·cases h1
 by_cases hmu:∃t m k x,o.op=.mapUpdate t m k x
 ·obtain⟨t,m,k,x,hmu⟩:=hmu;have hr:∀x,zF c g x=true->VR K.C R (ρ x) (ρ' x):=hρ fun _ _ h=>h;rw[hmu]at ho;simp only[opB,Bool.and_eq_true]at ho;unfold Go.execOp;rw[hmu];dsimp only;obtain⟨⟨⟨h1,h2⟩,h3⟩,h4⟩:=ho;unfold mapB at h1;split at h1
  ·rename_i k' e hd;exact(qh.mapUpdate Z.toSame Z.ng (kt:=k') (fun k'' e' hk'=>by rw[hd]at hk';cases hk';rfl) h1 (hr _ h2) (hr _ h3) (hr _ h4)).u
  ·cases h1
 refine qh.l ?_;have S:=Z.toSame;have hr:∀x,zF c g x=true->VR K.C R (ρ x) (ρ' x):=hρ fun _ _ h=>h;have all:∀xs:Array Operand,xs.all (zF c g)=true->AR K.C R (xs.map ρ) (xs.map ρ'):=fun xs h=>AR.map xs fun x hx=>hr x (all_opnd h x hx)
 have opt:∀x:Option Operand,x.all (zF c g)=true->OVR K.C R (x.map ρ) (x.map ρ'):=fun x h=>by
  cases x with
  | none=>exact .inl ⟨rfl,rfl⟩
  | some x=>exact .inr ⟨_,_,rfl,rfl,hr x (by simpa using h)⟩
 have parts:∀ps:Array (Nat×Operand),(ps.all fun p=>zF c g p.2)=true->PartsR K.C R (ps.map fun x=>(x.1,ρ x.2)).toList (ps.map fun x=>(x.1,ρ' x.2)).toList:=fun ps h=>by
  rw[Array.toList_map,Array.toList_map];refine PartsR.map _ fun x hx=>hr x.2 ?_;rw[Array.all_eq_true']at h;exact h x (by simpa using hx)
 obtain⟨dst,op,ty,pos,after,guard⟩:=o;simp only at ho
 cases op<;>simp only[opB,Bool.and_eq_true]at ho<;>first
  | (cases ho;done)
  | (unfold Go.execOp;dsimp only;first
      | exact .pure (.value (hr _ ho))
      | exact(qh.alloc S _).v
      | exact(qh.box _ (hr _ ho)).v
      | exact(qh.build S _ (parts _ ho)).v
      | exact(qh.buildSlice S _ _ (parts _ ho)).v
      | exact(qh.loadAt S _ (hr _ ho)).v
      | exact(qh.storeAt S _ (hr _ ho.1) (hr _ ho.2)).u
      | exact(qh.unary _ (hr _ ho)).v
      | exact(qh.convert S _ _ ho.1 (hr _ ho.2)).v
      | exact(qh.makeSlice S _ (hr _ ho.1) (hr _ ho.2)).v
      | exact(qh.sliceAt S _ (hr _ ho.1.1.1) (opt _ ho.1.1.2) (opt _ ho.1.2) (opt _ ho.2)).v
      | exact(qh.fieldAt S _ _ ho.1 (hr _ ho.2)).v
      | exact(qh.indexAt S _ (hr _ ho.1) (hr _ ho.2)).v
      | exact(qh.index S _ (hr _ ho.1) (hr _ ho.2)).v
      | exact(qh.extract _ (hr _ ho)).v
      | exact(qh.field S _ _ (hr _ ho)).v
      | skip)
 case pick x a b =>
  refine(qh.asBool (hr _ ho.1.1)).bind fun R1 u v h e=>?_;subst e;refine .pure (.value ?_);split
  ·exact(hr _ ho.1.2).mono h
  ·exact(hr _ ho.2).mono h
 case binOp op t x y yt =>
  obtain⟨⟨h1,h2⟩,h3⟩:=ho;refine qh.v ?_;rw[Bool.or_eq_true]at h3;rcases h3 with h3|h3
  ·refine qh.bind (Q:=fun _ _ _=>True) ?_ fun R1 _ _ h _=>qh.arith S Z.ng op t h3 (hρ h _ h1) (hρ h _ h2);unfold Go.eqGuard
   cases op<;>first
    | (simp[xA]at h3;done)
    | exact qh.pure trivial
  ·rw[Bool.and_eq_true]at h3
   have hop:op=.eql\/op=.neq:=by
    cases op<;>first
     | exact .inl rfl
     | exact .inr rfl
     | (simp at h3;done)
   exact(qh.eqGuard S op t x y h3.2 (hr _ h1) (hr _ h2)).bind fun R1 _ _ h _=>qh.cmp S Z.ng op hop t y h3.2 (hρ h _ h1) (hρ h _ h2) (fun v e=>by rw[e,hk])
 case makeFunc fn xs ys =>
  refine qh.v ?_;unfold Instr.makeFunc
  cases fn<;>first
   | (simp at ho;done)
   | exact .pure (AR.func (hc _ ho.1.1) (all _ ho.1.2) (all _ ho.2))
 case makeMap t r =>
  cases r with
  | none=>exact(qh.makeMap t).v
  | some r=>simp at ho
 case lookup t x i ok =>
  refine qh.v ?_;obtain⟨⟨h1,h2⟩,h3⟩:=ho;unfold mapB at h1;split at h1
  ·rename_i k e hd;exact qh.lookup S Z.ng (kt:=k) (fun k' e' hk'=>by rw[hd]at hk';cases hk';rfl) h1 (hr _ h2) (hr _ h3) ok
  ·cases h1
 case mapUpdate t m k x=>exact absurd ⟨t,m,k,x,rfl⟩ hmu
 case call k =>
  obtain⟨callee,args,ats⟩:=k;simp only[callB,Bool.and_eq_true]at ho;obtain⟨h1,h2⟩:=ho;have ha:=all _ h1;unfold Go.resolve
  cases callee with
  | value f=>exact qh.invokeValue Z (hr _ h2) ha
  | invoke r n=>simp at h2
  | builtin b =>
    show qh K P' P R (Go.builtin b _ _ _ _) (Go.builtin b _ _ _ _) _;refine qh.builtin S b _ _ _ ?_ ha
    cases b<;>first
     | (simp at h2;done)
     | exact .inl (.inl rfl)
     | exact .inl (.inr (.inl rfl))
     | exact .inl (.inr (.inr (.inl rfl)))
     | exact .inl (.inr (.inr (.inr rfl)))
     | exact .inr ⟨rfl,h2⟩
 case insert t m k x=>exact absurd ⟨t,m,k,x,rfl⟩ hin
 case nilCheck x=>exact absurd ⟨x,rfl⟩ hnc
end
def zQ(P:Program)(c g:Nat->Bool):Code->Bool
 | .skip | .label _ | .exit _ | .ret=>true
 | .region _ ops _=>ops.all fun o=>opB P c g o.op
 | .seq a b=>zQ P c g a&&zQ P c g b
 | .cond x a b=>zF c g x&&zQ P c g a&&zQ P c g b
 | .block _ b | .loop b | .scope b=>zQ P c g b
 | .rangeFunc f _ a b=>zF c g f&&zQ P c g a&&zQ P c g b
 | _=>false
def Std(P' P:Program)(f:FuncId):Prop:=∃fn,P'.funcs[f]? = some fn/\P.funcs[f]? = some fn/\P'.inits.idxOf? f=none
structure Cov (K:Cfg) (P' P:Program) (c g:Nat->Bool) (Sp:FuncId->Prop):Prop extends Progs K P' P where
 hc:∀f,c f=true->K.C f
 hD:∀f x,K.D f x↔(Std P' P f/\zQ P c g x=true)
 body:∀f,K.C f->¬Sp f->∃fn x,P'.funcs[f]? = some fn/\P.funcs[f]? = some fn/\fn.body=some x/\K.D f x
inductive ItemR (K:Cfg) (f:FuncId) (R:Nat->Nat->Prop):Item->Item->Prop
 | code (c:Code):K.D f c->ItemR K f R (.code c) (.code c)
 | inBlock (id:Nat):ItemR K f R (.inBlock id) (.inBlock id)
 | inLoop (b:Code):K.D f b->ItemR K f R (.inLoop b) (.inLoop b)
 | inScope (b:Code):ItemR K f R (.inScope b) (.inScope b)
 | inRegion (id:Nat) (ops:Array Oper) (todo:List Nat):K.D f (.region id ops false)->ItemR K f R (.inRegion ops todo) (.inRegion ops todo)
 | inRange {l l':Nat}:R l l'->ItemR K f R (.inRangeFunc l) (.inRangeFunc l')
 | endRange {l l':Nat}:R l l'->ItemR K f R (.endRangeFunc l) (.endRangeFunc l')
 | beginRound:ItemR K f R .beginRound .beginRound
inductive ItemsR (K:Cfg) (f:FuncId) (R:Nat->Nat->Prop):List Item->List Item->Prop
 | nil:ItemsR K f R [] []
 | cons {i i':Item} {k k':List Item}:ItemR K f R i i'->ItemsR K f R k k'->ItemsR K f R (i::k) (i'::k')
structure FR (K:Cfg) (P' P:Program) (R:Nat->Nat->Prop) (fr fr':Frame):Prop where
 fn:fr'.fn=fr.fn
 std:Std P' P fr.fn
 tmps:AR K.C R fr.tmps fr'.tmps
 todo:ItemsR K fr.fn R fr.todo fr'.todo
 defers:DsR K.C R fr.defers fr'.defers
 mode:(fr.mode=.run/\fr'.mode=.run)\/(fr.mode=.returning/\fr'.mode=.returning)
 kind:fr.kind=.normal
 kind':fr'.kind=.normal
 round:(fr.roundOf=none/\fr'.roundOf=none)\/∃l l',fr.roundOf=some l/\fr'.roundOf=some l'/\R l l'
def c0:Frame:={ fn:=0,tmps:=#[],todo:=[.code (.refuse "")],defers:=[{ target:=.nil,args:=#[] }],mode:=.run,kind:=.normal }
def DOk(d:Deferred):Prop:=∃r,d=⟨.collected r,#[]⟩
inductive BadK:List Frame->Prop
 | base:BadK [c0]
 | cons {a:Frame} {k:List Frame}:(∀d∈a.defers,DOk d)->BadK k->BadK (a::k)
structure Bs where
 src:List Frame
 tgt:List Frame
 bad:BadK src
def Bs.lone(l:List Frame):Bs:=⟨[c0],l,.base⟩
inductive FsR (K:Cfg) (P' P:Program) (bs:Bs) (R:Nat->Nat->Prop):List Frame->List Frame->Prop
 | one {a a':Frame}:FR K P' P R a a'->a.roundOf=none->FsR K P' P bs R (a::bs.src) (a'::bs.tgt)
 | cons {a a':Frame} {k k':List Frame}:FR K P' P R a a'->FsR K P' P bs R k k'->FsR K P' P bs R (a::k) (a'::k')
inductive KR (K:Cfg) (P' P:Program) (bs:Bs) (R:Nat->Nat->Prop) (ro:Option Nat):List Frame->List Frame->Prop
 | base:ro=none->KR K P' P bs R ro bs.src bs.tgt
 | over {k k':List Frame}:FsR K P' P bs R k k'->KR K P' P bs R ro k k'
inductive GR (K:Cfg) (P' P:Program) (bs:Bs) (R:Nat->Nat->Prop):Goroutine->Goroutine->Prop
 | mk {a a':Frame} {k k':List Frame}:FR K P' P R a a'->KR K P' P bs R a.roundOf k k' ->
    GR K P' P bs R { frame:=a,callers:=k,status:=.running,dying:=none } { frame:=a',callers:=k',status:=.running,dying:=none }
def ji(K:Cfg)(P' P:Program)(Sp:FuncId->Prop)(bs:Bs)(R:Nat->Nat->Prop)(g g':Goroutine):Prop :=
 ∃f xs xs' k k',Sp f/\AR K.C R xs xs'/\FsR K P' P bs R k k' /\
  g={ frame:=Frame.enter P' f xs .normal,callers:=k,status:=.running,dying:=none }/\g'={ frame:=Frame.enter P f xs' .normal,callers:=k',status:=.running,dying:=none }
def yE(l:List Frame)(g:Goroutine):Prop:=g.frame.mode=.returning/\g.frame.defers=[]/\g.callers=l
def Leaves(g:Goroutine):Prop:=g.frame.mode=.returning/\g.frame.defers=[]/\g.callers=[c0]
inductive Bad:Goroutine->Prop
 | up {a:Frame} {k:List Frame} (ch:List PanicEntry):a.mode=.panicking ch->(∀d∈a.defers,DOk d)->BadK k->Bad { frame:=a,callers:=k,status:=.running,dying:=none }
 | bottom {a:Frame} (ch:List PanicEntry):a.mode=.panicking ch->a.defers=c0.defers->Bad { frame:=a,callers:=[],status:=.running,dying:=none }
theorem Bad.notLeaves{g:Goroutine}(h:Bad g):¬Leaves g:=by
 rintro⟨h1,_,_⟩
 cases h with
 | up ch e _ _=>simp only at h1;rw[e]at h1;cases h1
 | bottom ch e _=>simp only at h1;rw[e]at h1;cases h1
theorem raise_mode(a:Frame)(vs:List PanicEntry):∃ch,(a.raise vs).mode=.panicking ch:=by
 unfold Frame.raise;split<;>exact⟨_,rfl⟩
theorem xe(a:Frame)(vs:List PanicEntry):(a.raise vs).defers=a.defers:=by
 unfold Frame.raise;split<;>rfl
theorem Bad.step{P:Program}{m:Bool}{g g1:Goroutine}{w w1:World}{es:Array Event}(h:Bad g)(hn:yU w)(hs:stepG P m g w=.go g1 w1 es):Bad g1/\yU w1:=by
 cases h with
 | @bottom a ch hm hd =>
   obtain⟨fn,tmps,todo,defers,mode,kind,ro⟩:=a;simp only at hm hd;subst hm hd;simp[stepG,unwind,callDeferred,c0]at hs
 | @up a k ch hm hd hk =>
   obtain⟨fn,tmps,todo,defers,mode,kind,ro⟩:=a;simp only at hm hd;subst hm
   cases defers with
   | cons d ds =>
     obtain⟨r,rfl⟩:=hd d (by simp);simp only[stepG,unwind,Sem.runT_eq]at hs
     cases e:(Instr.takeDeferred r).run P w with
     | halt x y=>rw[e]at hs;cases hs
     | ok calls w2 =>
       rw[e]at hs;simp only[GStep.after,GStep.go.injEq]at hs;obtain⟨rfl,rfl,_⟩:=hs;unfold Instr.takeDeferred at e;rw[Sem.run_bind]at e
       cases e2:(Go.getObj r).run P w with
       | halt x y=>rw[e2]at e;cases e
       | ok o w3 =>
         obtain⟨rfl,h1,_⟩:=Zi e2;rw[e2]at e;simp only[Result.andThen_ok]at e;split at e
         ·rename_i ds' _;rw[Sem.run_bind]at e;have h0:ds'=[]:=hn r _ h1;subst h0;unfold Go.setObj at e;simp only[Sem.run,h1,Result.andThen_ok,Sem.run_pure,Result.ok.injEq]at e;obtain⟨rfl,rfl⟩:=e;refine⟨.up ch rfl (fun x hx=>hd x (by simp at hx;simp[hx])) hk,fun i x hx=>?_⟩;simp only[Array.getElem?_setIfInBounds]at hx;split at hx
          ·first
            | (cases hx;done)
            | (split at hx<;>cases hx)
          ·exact hn i x hx
         ·cases e
   | nil =>
     simp only[stepG,unwind]at hs;split at hs
     ·cases hs
     ·cases hk with
      | base =>
        simp only[GStep.go.injEq]at hs;obtain⟨rfl,rfl,_⟩:=hs;obtain⟨ch',e⟩:=raise_mode c0 ch;exact⟨.bottom ch' e (xe _ _),hn⟩
      | @cons b k' hb hk =>
        simp only[GStep.go.injEq]at hs;obtain⟨rfl,rfl,_⟩:=hs;obtain⟨ch',e⟩:=raise_mode b ch;exact⟨.up ch' e (by rw[xe];exact hb) hk,hn⟩
section
variable {K:Cfg} {P' P:Program} {R R1:Nat->Nat->Prop} {f:FuncId}
theorem ItemR.mono(h:∀b c,R b c->R1 b c){i i':Item}(x:ItemR K f R i i'):ItemR K f R1 i i':=by
 cases x with
 | code c d=>exact .code c d
 | inBlock id=>exact .inBlock id
 | inLoop b d=>exact .inLoop b d
 | inScope b=>exact .inScope b
 | inRegion id ops t d=>exact .inRegion id ops t d
 | inRange r=>exact .inRange (h _ _ r)
 | endRange r=>exact .endRange (h _ _ r)
 | beginRound=>exact .beginRound
theorem ItemsR.mono(h:∀b c,R b c->R1 b c){i i':List Item}(x:ItemsR K f R i i'):ItemsR K f R1 i i':=by
 induction x with
 | nil=>exact .nil
 | cons a _ ih=>exact .cons (a.mono h) ih
theorem FR.mono(h:∀b c,R b c->R1 b c){a a':Frame}(x:FR K P' P R a a'):FR K P' P R1 a a' :=
 ⟨x.fn,x.std,x.tmps.mono h,x.todo.mono h,x.defers.mono h,x.mode,x.kind,x.kind',x.round.imp id fun⟨l,l',a,b,c⟩=>⟨l,l',a,b,h _ _ c⟩⟩
theorem FsR.mono{bs:Bs}(h:∀b c,R b c->R1 b c){a a':List Frame}(x:FsR K P' P bs R a a'):FsR K P' P bs R1 a a':=by
 induction x with
 | one a b=>exact .one (a.mono h) b
 | cons a _ ih=>exact .cons (a.mono h) ih
theorem KR.mono{bs:Bs}{ro:Option Nat}(h:∀b c,R b c->R1 b c){a a':List Frame}(x:KR K P' P bs R ro a a'):KR K P' P bs R1 ro a a':=by
 cases x with
 | base e=>exact .base e
 | over k=>exact .over (k.mono h)
theorem GR.mono{bs:Bs}(h:∀b c,R b c->R1 b c){a a':Goroutine}(x:GR K P' P bs R a a'):GR K P' P bs R1 a a':=by
 cases x with|mk a b=>exact .mk (a.mono h) (b.mono h)
theorem GR.push{bs:Bs}{a a':Frame}{k k':List Frame}(x:FR K P' P R a a')(y:KR K P' P bs R a.roundOf k k'):FsR K P' P bs R (a::k) (a'::k'):=by
 cases y with
 | base e=>exact .one x e
 | over k=>exact .cons x k
theorem GR.pop{bs:Bs}{a a' b b':Frame}{k k':List Frame}(y:FsR K P' P bs R (a::k) (a'::k'))(x:FR K P' P R b b')(e:b.roundOf=a.roundOf):KR K P' P bs R b.roundOf k k':=by
 cases y with
 | one _ h=>exact .base (e.trans h)
 | cons _ h=>exact .over h
theorem DsR.ok{C:FuncId->Prop}{ds ds':List Deferred}(h:DsR C R ds ds'):∀d∈ds,DOk d:=by
 induction h with
 | nil=>intro d hd;simp at hd
 | cons a _ ih =>
   intro d hd;simp only[List.mem_cons]at hd;rcases hd with rfl|hd
   ·cases a with|collected r=>exact⟨_,rfl⟩
   ·exact ih d hd
theorem FsR.bad{bs:Bs}{k k':List Frame}(h:FsR K P' P bs R k k'):BadK k:=by
 induction h with
 | one a _=>exact .cons a.defers.ok bs.bad
 | cons a _ ih=>exact .cons a.defers.ok ih
theorem KR.bad{bs:Bs}{k k':List Frame}{ro:Option Nat}(h:KR K P' P bs R ro k k'):BadK k:=by
 cases h with
 | base _=>exact bs.bad
 | over h=>exact h.bad
theorem FR.eval{c g:Nat->Bool}{a a':Frame}(hc:∀f,c f=true->K.C f)(hg:∀n,g n=true->R n n)(x:FR K P' P R a a')(h:∀b c,R b c->R1 b c)(o:Operand)(ho:zF c g o=true):VR K.C R1 (a.eval o) (a'.eval o):=by
 cases o with
 | tmp t=>exact(x.tmps.mono h).getD t VR.undef
 | const v=>exact VR.plain 8 v ho
 | global n=>exact .ptr ⟨h _ _ (hg n ho),rfl,rfl⟩
 | func f=>exact AR.func (hc f ho) .nil .nil
theorem FR.finish{a a':Frame}{v v':Value}(x:FR K P' P R a a')(hv:VR K.C R v v'):FR K P' P R (a.finish v) (a'.finish v'):=by
 obtain⟨fn,tmps,todo,defers,mode,kind,ro⟩:=a;obtain⟨fn',tmps',todo',defers',mode',kind',ro'⟩:=a';obtain⟨h1,h2,h3,h4,h5,h6,h7,h8,h9⟩:=x;simp only at h1 h2 h3 h4 h5 h6 h7 h8 h9
 cases h4 with
 | nil=>exact⟨h1,h2,h3,.nil,h5,h6,h7,h8,h9⟩
 | cons hi hk =>
   cases hi with
   | code c d=>exact⟨h1,h2,h3,.cons (.code c d) hk,h5,h6,h7,h8,h9⟩
   | inBlock id=>exact⟨h1,h2,h3,.cons (.inBlock id) hk,h5,h6,h7,h8,h9⟩
   | inLoop b d=>exact⟨h1,h2,h3,.cons (.inLoop b d) hk,h5,h6,h7,h8,h9⟩
   | inScope b=>exact⟨h1,h2,h3,.cons (.inScope b) hk,h5,h6,h7,h8,h9⟩
   | inRegion id ops t d =>
     cases t with
     | nil=>exact⟨h1,h2,h3,.cons (.inRegion id ops [] d) hk,h5,h6,h7,h8,h9⟩
     | cons i rest =>
       refine⟨h1,h2,?_,.cons (.inRegion id ops rest d) hk,h5,h6,h7,h8,h9⟩;simp only[Frame.finish];split
       ·exact h3.set _ hv
       ·exact h3
   | inRange r=>exact⟨h1,h2,h3,.cons (.endRange r) hk,h5,h6,h7,h8,h9⟩
   | endRange r=>exact⟨h1,h2,h3,.cons (.endRange r) hk,h5,h6,h7,h8,h9⟩
   | beginRound=>exact⟨h1,h2,h3,hk,h5,h6,h7,h8,h9⟩
theorem FR.yielded{a a':Frame}(x:FR K P' P R a a')(ops:Array Oper)(j:Nat):Go.yielded ops a'.tmps j=Go.yielded ops a.tmps j:=by
 unfold Go.yielded
 cases(ops[j]?).bind (·.dst)with
 | none=>rfl
 | some d =>
   simp only[Option.bind_some]
   cases e:a.tmps[d]? with
   | none=>rw[x.tmps.get_none e]
   | some v =>
     obtain⟨v',e',hv⟩:=x.tmps.get e;rw[e'];cases hv<;>first|rfl|(cases v'<;>first|rfl|(simp_all[xY];done))
theorem ItemsR.exitTo(id:Nat){k k' j:List Item}(x:ItemsR K f R k k')(h:Go.exitTo id k=some j):∃j',Go.exitTo id k'=some j'/\ItemsR K f R j j':=by
 induction x with
 | nil=>cases h
 | cons hi hk ih =>
   cases hi<;>unfold Go.exitTo at h⊢ <;> first
    | exact ih h
    | (split at h
       ·rename_i e;cases h;rw[if_pos e];exact⟨_,rfl,hk⟩
       ·rename_i e;rw[if_neg e];exact ih h)
theorem ItemsR.exitTo_none(id:Nat){k k':List Item}(x:ItemsR K f R k k')(h:Go.exitTo id k=none):Go.exitTo id k'=none:=by
 induction x with
 | nil=>rfl
 | cons hi hk ih =>
   cases hi<;>unfold Go.exitTo at h⊢ <;> first
    | exact ih h
    | (split at h
       ·cases h
       ·rename_i e;rw[if_neg e];exact ih h)
end
section
variable {K:Cfg} {P' P:Program} {R:Nat->Nat->Prop} {Sp:FuncId->Prop} {c g:Nat->Bool} {bs:Bs}
def Qv(K:Cfg)(P' P:Program)(Sp:FuncId->Prop)(bs:Bs)(R:Nat->Nat->Prop)(w w':World)(g1:Goroutine)(w1:World)(s':GStep):Prop :=
 yU w1/\(Bad g1\/∃R1 g1' w1' es',s'=.go g1' w1' es'/\(GR K P' P bs R1 g1 g1'\/ji K P' P Sp bs R1 g1 g1')/\WR K R1 w1 w1'/\Ext K R R1 w w' w1 w1'/\xy K R1 es')
theorem xy.seen{P:Program}{f:FuncId}{es:Array Event}(h:xy K R es):xy K R (Go.seen P f es):=fun e he=>h e (Go.Conc.mem_seen he)
theorem Qv.still{w w':World}(hn:yU w)(hw:WR K R w w'){a a':Frame}{k k':List Frame}(ha:FR K P' P R a a')(hk:KR K P' P bs R a.roundOf k k') :
 Qv K P' P Sp bs R w w' { frame:=a,callers:=k,status:=.running,dying:=none } w (.go { frame:=a',callers:=k',status:=.running,dying:=none } w' #[]) :=
 ⟨hn,.inr ⟨R,_,_,_,rfl,.inl (.mk ha hk),hw,.refl _ _,xy.nil⟩⟩
theorem qh.mapMVals{γ:Type}(l:List γ){f f':γ->Sem Value}{R:Nat->Nat->Prop}(h:∀(R1:Nat->Nat->Prop),(∀b c,R b c->R1 b c)->∀x∈l,qh K P' P R1 (f x) (f' x) (fun R2 a b=>VR K.C R2 a b)) :
 qh K P' P R (l.mapM f) (l.mapM f') (fun R2 a b=>AR K.C R2 a.toArray b.toArray):=by
 induction l generalizing R with
 | nil=>simp only[List.mapM_nil];exact .pure .nil
 | cons x l ih =>
   simp only[List.mapM_cons];refine(h R (fun _ _ h=>h) x (by simp)).bind fun R1 a b hR e=>?_;refine(ih fun R2 h2 y hy=>h R2 (fun _ _ k=>h2 _ _ (hR _ _ k)) y (by simp[hy])).bind fun R2 c d h2 e2=>.pure ?_;have:=(AR.one (e.mono h2)).append e2;simpa using this
theorem qh.results(S:Same P' P)(fn:Func){ts ts':Array Value}(h:AR K.C R ts ts'):qh K P' P R (Go.results fn ts) (Go.results fn ts') (fun R1 x y=>VR K.C R1 x y):=by
 unfold Go.results;rw[Array.mapM_eq_mapM_toList,Array.mapM_eq_mapM_toList];rw[map_eq_pure_bind,map_eq_pure_bind];simp only[bind_assoc,pure_bind];refine(qh.mapMVals fn.results.toList (fun R1 hR x _=>?_)).bind fun R1 a b hR e=>?_
 ·cases x with
  | tmp t=>exact .pure ((h.mono hR).getD t VR.undef)
  | cell a t=>exact(qh.asAddr ((h.mono hR).getD a VR.undef)).bind fun R2 u v _ hu=>qh.loadVar S t hu
 ·refine .pure ?_;have hs:=e.size;by_cases h1:a.toArray.size=1
  ·have h2:b.toArray.size=1:=hs▸h1;rw[dif_pos h1,dif_pos h2];exact e.el 0 _ _ (by simp) (by simp)
  ·have h2:¬b.toArray.size=1:=hs▸h1;rw[dif_neg h1,dif_neg h2];exact e.tuple
theorem yX(a:Frame)(v:Value):(a.finish v).roundOf=a.roundOf:=by
 unfold Frame.finish;split<;>rfl
theorem FR.enter(Z:Cov K P' P c g Sp){f:FuncId}{xs xs':Array Value}(hf:K.C f)(hs:¬Sp f)(hx:AR K.C R xs xs'):FR K P' P R (Frame.enter P' f xs .normal) (Frame.enter P f xs' .normal):=by
 obtain⟨fn,x,e1,e2,hb,hd⟩:=Z.body f hf hs;have hstd:=((Z.hD f x).1 hd).1;unfold Frame.enter;simp only[e1,e2,Option.map_some,Option.getD_some,Option.bind_some,hb];refine⟨rfl,hstd,?_,.cons (.code x hd) .nil,.nil,.inl ⟨rfl,rfl⟩,rfl,rfl,.inl ⟨rfl,rfl⟩⟩;rw[hx.size];exact hx.append (AR.replicate _ VR.undef)
theorem FR.round'(Z:Cov K P' P c g Sp){f:FuncId}{l l':Nat}{ts ts':Array Value}{x y:Code}(hl:R l l')(ht:AR K.C R ts ts')(hx:K.D f x)(hy:K.D f y):FR K P' P R (Frame.round l f ts x y .normal) (Frame.round l' f ts' x y .normal) :=
 ⟨rfl,((Z.hD f x).1 hx).1,ht,.cons (.code x hx) (.cons .beginRound (.cons (.code y hy) .nil)),.nil,.inl ⟨rfl,rfl⟩,rfl,rfl,.inr ⟨l,l',rfl,rfl,hl⟩⟩
theorem Qv.bad{w w' w1:World}{a:Frame}{k k':List Frame}{ch:List PanicEntry}(hn:yU w1){a':Frame}(ha:FR K P' P R a a')(hk:KR K P' P bs R a.roundOf k k')(s:GStep) :
 Qv K P' P Sp bs R w w' { frame:=a.raise ch,callers:=k,status:=.running,dying:=none } w1 s:=by
 refine⟨hn,.inl ?_⟩;obtain⟨ch',e⟩:=raise_mode a ch;exact .up ch' e (by rw[xe];exact ha.defers.ok) hk.bad
theorem qbY{f:FuncId}{k k':List Item}(h:ItemsR K f R k k'):stepG.apply.match_1 (fun _=>CallKind) k (fun _ _ _ _=>.wrapped) (fun _=>.normal)=.normal/\stepG.apply.match_1 (fun _=>CallKind) k' (fun _ _ _ _=>.wrapped) (fun _=>.normal)=.normal:=by
 cases h with
 | nil=>exact⟨rfl,rfl⟩
 | cons hi _=>cases hi<;>exact⟨rfl,rfl⟩
theorem zJ{es es':Array Event}{s:GStep}{g1:Goroutine}{w1:World}(h:GStep.after es s=.go g1 w1 es'):∃e,s=.go g1 w1 e:=by
 cases s<;>simp only[GStep.after,GStep.go.injEq,reduceCtorEq]at h
 obtain⟨rfl,rfl,_⟩:=h;exact⟨_,rfl⟩
theorem YR{p:Program}{fr:Frame}{cs:List Frame}{d:Option Dying}{m:String}{w w1:World}{g1:Goroutine}{es:Array Event}(h:endFatal p fr cs d m w=.go g1 w1 es):w.drawn<=w1.drawn:=by
 unfold endFatal at h;dsimp only at h;split at h
 ·rename_i e;simp only[dieOf,GStep.go.injEq]at h;obtain⟨_,rfl,_⟩:=h;exact zC p _ e
 ·cases h
 ·cases h
theorem YP{p:Program}{fr:Frame}{cs:List Frame}{d:Option Dying}{q:Nat}{w w1:World}{g1:Goroutine}{es:Array Event}(h:early p fr cs d q w=.go g1 w1 es):w.drawn<=w1.drawn:=by
 unfold early at h;dsimp only at h;have fin:∀{w2:World},w.drawn<=w2.drawn->w2.drawn=w1.drawn->w.drawn<=w1.drawn:=fun a b=>b▸a;repeat' (first|(cases h;done)|(split at h))
 all_goals(simp only[GStep.go.injEq]at h;obtain⟨_,h,_⟩:=h;subst h)
 all_goals first
  | exact ql
  | (have hh:=zC p (choose (.early q)) (by assumption);exact hh)
theorem Zr(Z:Cov K P' P c g Sp){w w':World}(hn:yU w)(hw:WR K R w w'){a a':Frame}{k k':List Frame}(ha:FR K P' P R a a')(hk:KR K P' P bs R a.roundOf k k')
 {s s':Sem Next} (h:jI K P' P R s s' (fun R1 x y=>NextR K R1 x y)) {g1:Goroutine} {w1:World} {es:Array Event}
 (hs:stepG.apply P' true a k none s w=.go g1 w1 es) (hd0:w1.drawn=K.lim):Qv K P' P Sp bs R w w' g1 w1 (stepG.apply P true a' k' none s' w'):=by
 have hd:=Nat.le_of_eq hd0;have hkind:∀x:Frame,x.kind=.normal->(x.kind==CallKind.early)=false:=fun x e=>by rw[e];rfl
 unfold stepG.apply at hs⊢;simp only[Sem.runT_eq,if_true]at hs⊢;have hcall:stepG.apply.match_1 (fun _=>CallKind) a.todo (fun _ _ _ _=>.wrapped) (fun _=>.normal)=.normal:=(qbY ha.todo).1;have hcall':stepG.apply.match_1 (fun _=>CallKind) a'.todo (fun _ _ _ _=>.wrapped) (fun _=>.normal)=.normal:=(qbY ha.todo).2;rw[hcall]at hs;rw[hcall'];rw[hkind a ha.kind]at hs;rw[hkind a' ha.kind']
 cases e:s.run P' w with
 | halt x y =>
   rw[e]at hs;have kh:=fun hd=>(h w w' hw).2.1 x y e hd
   cases x with
   | panic v =>
     simp only[GStep.after,GStep.go.injEq]at hs;obtain⟨rfl,rfl,_⟩:=hs;exact .bad ((kh hd).1 hn) ha hk _
   | stuck m=>cases hs
   | unsupported u =>
     cases u with
     | initOrder q =>
       obtain⟨_,hs⟩:=zJ hs;have hy:y.drawn<=w1.drawn:=YP hs;exact absurd (kh (Nat.le_trans hy hd)).2 (by simp[xM])
     | _=>cases hs
   | _ =>
     obtain⟨_,hs⟩:=zJ hs
     first
      | (cases hs;done)
      | (simp only[endThrow,dieOf,GStep.go.injEq]at hs
         obtain⟨_,rfl,_⟩:=hs
         exact absurd (kh hd).2 (by simp[xM]))
      | exact absurd (kh (Nat.le_trans (YR hs) hd)).2 (by simp[xM])
 | ok n w2 =>
   rw[e]at hs
   obtain⟨R1,b,w1',e1,hw1,hx,hv,hq,hkd⟩:=(h w w' hw).1 n w2 e (by
    obtain⟨_,hs⟩:=zJ hs
    have hw2:w1=w2:=by
     cases n<;>(try dsimp only at hs)<;>repeat' (first|(cases hs;done)|(split at hs))
     all_goals first
      | (simp only[GStep.go.injEq]at hs;exact hs.2.1.symm)
      | (simp only[endThrow,dieOf,GStep.go.injEq]at hs;exact hs.2.1.symm)
    exact hw2▸hd0)
   rw[e1]
   cases hq with
   | value hv2 =>
     simp only[GStep.after,GStep.go.injEq]at hs;obtain⟨rfl,rfl,_⟩:=hs;refine⟨hkd hn,.inr ⟨R1,_,_,_,rfl,.inl (.mk ((ha.mono hx.le).finish hv2) ?_),hw1,hx,?_⟩⟩
     ·rw[yX];exact hk.mono hx.le
     ·simpa using xy.seen hv
   | skip =>
     simp only[GStep.after,GStep.go.injEq]at hs;obtain⟨rfl,rfl,_⟩:=hs;refine⟨hkd hn,.inr ⟨R1,_,_,_,rfl,.inl (.mk ((ha.mono hx.le).finish VR.undef) ?_),hw1,hx,?_⟩⟩
     ·rw[yX];exact hk.mono hx.le
     ·simpa using xy.seen hv
   | enter f hf hxs =>
     simp only[GStep.after,GStep.go.injEq]at hs;obtain⟨rfl,rfl,_⟩:=hs;have hp:=GR.push (ha.mono hx.le) (hk.mono hx.le);refine⟨hkd hn,.inr ⟨R1,_,_,_,rfl,?_,hw1,hx,by simpa using xy.seen hv⟩⟩;by_cases hf2:Sp f
     ·exact .inr ⟨f,_,_,_,_,hf2,hxs,hp,rfl,rfl⟩
     ·exact .inl (.mk (FR.enter Z hf hf2 hxs) (.over hp))
   | round f x y hl ht hdx hdy =>
     simp only[GStep.after,GStep.go.injEq]at hs;obtain⟨rfl,rfl,_⟩:=hs;have hp:=GR.push (ha.mono hx.le) (hk.mono hx.le);exact⟨hkd hn,.inr ⟨R1,_,_,_,rfl,.inl (.mk (FR.round' Z hl ht hdx hdy) (.over hp)),hw1,hx,by simpa using xy.seen hv⟩⟩
end
section
variable {K:Cfg} {P' P:Program} {R:Nat->Nat->Prop} {Sp:FuncId->Prop} {c g:Nat->Bool} {bs:Bs}
theorem qh.enterLoop{f:FuncId}{ts ts':Array Value}(ht:AR K.C R ts ts')(ps:Array Tmp){a b:Code}(ha:K.D f a)(hb:K.D f b){ro ro':Option Nat}(hr:(ro=none/\ro'=none)\/∃l l',ro=some l/\ro'=some l'/\R l l') :
 qh K P' P R (Instr.enterLoop f ts ps a b ro) (Instr.enterLoop f ts' ps a b ro') (fun R1 x y=>R1 x.1 y.1/\DsR K.C R1 x.2 y.2):=by
 have key:∀{R1:Nat->Nat->Prop},(∀b c,R b c->R1 b c)->∀{d d':Nat} {ms ms':List Deferred},R1 d d'->DsR K.C R1 ms ms' ->
  qh K P' P R1 (do Pure.pure (<-Go.newObj (.loop { state:=.ready,pending:=none,fn:=f,tmps:=ts,params:=ps,assign:=a,body:=b,defers:=d }),ms))
   (do Pure.pure (<-Go.newObj (.loop { state:=.ready,pending:=none,fn:=f,tmps:=ts',params:=ps,assign:=a,body:=b,defers:=d' }),ms')) (fun R1 x y=>R1 x.1 y.1/\DsR K.C R1 x.2 y.2):=by
  intro R1 hR d d' ms ms' hd hm
  have ho:OR K.C K.D R1 (.loop { state:=.ready,pending:=none,fn:=f,tmps:=ts,params:=ps,assign:=a,body:=b,defers:=d }) (.loop { state:=.ready,pending:=none,fn:=f,tmps:=ts',params:=ps,assign:=a,body:=b,defers:=d' }) :=
   .loop ⟨rfl,rfl,rfl,ht.mono hR,rfl,rfl,rfl,hd,ha,hb,fun x e=>by cases e⟩
  exact(qh.newObj ho).bind fun R2 r r' h2 hr=>.pure ⟨hr,hm.mono h2⟩
 unfold Instr.enterLoop;rcases hr with⟨rfl,rfl⟩|⟨l,l',rfl,rfl,hl⟩
 ·dsimp only;refine(qh.newObj .deferred).bind fun R1 r r' hR hr=>?_;exact key hR hr (.cons (.collected hr) .nil)
 ·dsimp only;exact(qh.getLoop hl).bind fun R1 r r' hR hr=>key hR hr.defers .nil
theorem qh.beginRound{l l':Nat}(h:R l l'):qh K P' P R (Instr.beginRound l) (Instr.beginRound l') (fun _ _ _=>True):=by
 unfold Instr.beginRound;refine(qh.getLoop h).bind fun R1 r r' hR hr=>?_;refine qh.bind (qh.setObj (hR _ _ h) (.loop ⟨rfl,hr.pending,hr.fn,hr.tmps,hr.params,hr.assign,hr.body,hr.defers,hr.okA,hr.okB,hr.okP⟩) (fun _ _ _ e=>by cases e)) fun R2 _ _ _ _=>?_;rw[hr.state]
 cases r.state<;>first
  | exact .pure trivial
  | exact .runtimePanic
theorem qh.endRound{l l':Nat}(h:R l l')(j:Option Code)(hj:∀(f:FuncId) x y,j=some x->K.D f y->K.D f x):qh K P' P R (Instr.endRound l j) (Instr.endRound l' j) (fun R1 x y=>VR K.C R1 x y):=by
 unfold Instr.endRound;refine(qh.getLoop h).bind fun R1 r r' hR hr=>?_;refine qh.bind (qh.setObj (hR _ _ h) (.loop ⟨rfl,rfl,hr.fn,hr.tmps,hr.params,hr.assign,hr.body,hr.defers,hr.okA,hr.okB,fun x e=>hj _ x _ e hr.okA⟩) (fun _ _ _ e=>by cases e)) fun R2 _ _ _ _=>?_;exact .pure (.bool _)
theorem qh.endLoop(Z:Cov K P' P c g Sp){l l':Nat}(h:R l l'):qh K P' P R (Instr.endLoop l) (Instr.endLoop l') (fun _ x y=>y=x/\∀z,x=some z->zQ P c g z=true):=by
 unfold Instr.endLoop;refine(qh.getLoop h).bind fun R1 r r' hR hr=>?_;rw[hr.state];split
 ·exact qh.panicked
 ·refine qh.bind (qh.setObj (hR _ _ h) (.loop ⟨rfl,hr.pending,hr.fn,hr.tmps,hr.params,hr.assign,hr.body,hr.defers,hr.okA,hr.okB,hr.okP⟩) (fun _ _ _ e=>by cases e)) fun R2 _ _ _ _=>?_;exact .pure ⟨hr.pending,fun z e=>((Z.hD _ _).1 (hr.okP z e)).2⟩
theorem qh.takeDeferred{r r':Nat}(h:R r r'):qh K P' P R (Instr.takeDeferred r) (Instr.takeDeferred r') (fun _ x y=>x=[]/\y=[]):=by
 unfold Instr.takeDeferred;refine(qh.getObj h).bind fun R1 o o' hR ho=>?_;obtain⟨ho,_⟩:=ho
 cases ho<;>first
  | exact .stuck
  | (refine qh.bind (qh.setObj (hR _ _ h) .taken (fun _ _ _ e=>by cases e)) fun R2 _ _ _ _=>?_
     exact .pure ⟨rfl,rfl⟩)
theorem Qv.after{R1:Nat->Nat->Prop}{w w' wa wa' w1:World}{g1:Goroutine}{s':GStep}{es:Array Event}(hx:Ext K R R1 w w' wa wa')(hv:xy K R1 es)(h:Qv K P' P Sp bs R1 wa wa' g1 w1 s') :
 Qv K P' P Sp bs R w w' g1 w1 (GStep.after es s'):=by
 obtain⟨hn,h⟩:=h;refine⟨hn,h.imp id ?_⟩;rintro⟨R2,g1',w1',es',rfl,hg,hw,hx2,hv2⟩;exact⟨R2,g1',w1',_,rfl,hg,hw,hx.trans hx2,(hv.mono hx2.le).append hv2⟩
theorem FsR.head{a a':Frame}{k k':List Frame}(h:FsR K P' P bs R (a::k) (a'::k')):FR K P' P R a a':=by
 cases h with
 | one h _=>exact h
 | cons h _=>exact h
theorem Xh{w w':World}(hn:yU w)(hw:WR K R w w'){a a':Frame}{k k':List Frame}(h1:a.kind=.normal)(h2:a'.kind=.normal)(hk:FsR K P' P bs R k k'){v v':Value}(hv:VR K.C R v v'){m m':Bool}
 {g1:Goroutine} {w1:World} {es:Array Event} (hs:doReturn P' m a k none v w=.go g1 w1 es):Qv K P' P Sp bs R w w' g1 w1 (doReturn P m' a' k' none v' w'):=by
 have key:∀{b b':Frame} {r r':List Frame},FsR K P' P bs R (b::r) (b'::r')->doReturn P' m a (b::r) none v w=.go g1 w1 es->Qv K P' P Sp bs R w w' g1 w1 (doReturn P m' a' (b'::r') none v' w'):=by
  intro b b' r r' hk hs;unfold doReturn at hs⊢;simp only[h1,h2,GStep.go.injEq]at hs⊢;obtain⟨rfl,rfl,_⟩:=hs;have hb:=hk.head.finish hv;exact .still hn hw hb (GR.pop hk hb (yX _ _))
 cases hk with
 | one x y=>exact key (.one x y) hs
 | cons x y=>exact key (.cons x y) hs
theorem QD{p:Program}{a:Frame}{k:List Frame}{s:Sem Next}{w w1:World}{g1:Goroutine}{es:Array Event}(hs:stepG.apply p true a k none s w=.go g1 w1 es):(s.run p w).w.drawn<=w1.drawn:=by
 unfold stepG.apply at hs;simp only[Sem.runT_eq,if_true]at hs;obtain⟨_,hs⟩:=zJ hs
 cases e:s.run p w with
 | halt x y =>
   rw[e]at hs;show y.drawn<=w1.drawn
   cases x<;>(try dsimp only at hs)<;>first
    | (cases hs;done)
    | (simp only[GStep.go.injEq]at hs;obtain⟨_,h,_⟩:=hs;rw[h];exact ql)
    | (simp only[endThrow,dieOf,GStep.go.injEq]at hs;obtain⟨_,h,_⟩:=hs;rw[h];exact ql)
    | exact YR hs
    | (rename_i u;cases u<;>first
        | (cases hs;done)
        | exact YP hs)
 | ok n w2 =>
   rw[e]at hs
   have hw2:w1=w2:=by
    cases n<;>(try dsimp only at hs)<;>repeat' (first|(cases hs;done)|(split at hs))
    all_goals first
     | (simp only[GStep.go.injEq]at hs;exact hs.2.1.symm)
     | (simp only[endThrow,dieOf,GStep.go.injEq]at hs;exact hs.2.1.symm)
   rw[hw2];exact ql
end
section
variable {K:Cfg} {P' P:Program} {R:Nat->Nat->Prop} {Sp:FuncId->Prop} {c g:Nat->Bool} {bs:Bs}
theorem jc{α β:Type}{s:Sem α}{s':Sem β}{Q:(Nat->Nat->Prop)->α->β->Prop}{w w':World}(hw:WR K R w w')(hn:yU w)(h:qh K P' P R s s' Q){a:α}{wa:World}(e:s.run P' w=.ok a wa)(hd:wa.drawn<=K.lim) :
 ∃R1 b wa',s'.run P w'=.ok b wa'/\WR K R1 wa wa'/\Ext K R R1 w w' wa wa'/\xy K R1 (s'.events P w' #[])/\Q R1 a b/\yU wa:=by
 obtain⟨R1,b,wa',h1,h2,h3,h4,h5,h6⟩:=(h w w' hw).1 a wa e hd;exact⟨R1,b,wa',h1,h2,h3,h4,h5,h6 hn⟩
theorem ZC(Z:Cov K P' P c g Sp){w w':World}(hn:yU w)(hw:WR K R w w'){fn:FuncId}{ts ts':Array Value}{td td':List Item}{ds ds':List Deferred}{l l':Nat}{k k':List Frame}
 (hl:R l l') (hk:KR K P' P bs R (some l) k k') (j:Option Code) (hj:∀x,j=some x->zQ P c g x=true) {m m':Bool} {s s':String} {g1:Goroutine} {w1:World} {es:Array Event}
 (hs:(GStep.after (seen P' fn ((Instr.endRound l j).events P' w #[])) (match (Instr.endRound l j).run P' w with
    | .ok v w=>doReturn P' m { fn,tmps:=ts,todo:=td,defers:=ds,mode:=.run,kind:=.normal,roundOf:=some l } k none v w
    | .halt _ w=>.ended (.stuck "range over a function: no such loop" s) w))=.go g1 w1 es) (hd0:w1.drawn=K.lim) :
 Qv K P' P Sp bs R w w' g1 w1 (GStep.after (seen P fn ((Instr.endRound l' j).events P w' #[])) (match (Instr.endRound l' j).run P w' with
     | .ok v w=>doReturn P m' { fn,tmps:=ts',todo:=td',defers:=ds',mode:=.run,kind:=.normal,roundOf:=some l' } k' none v w
     | .halt _ w=>.ended (.stuck "range over a function: no such loop" s') w)):=by
 have hd:=Nat.le_of_eq hd0;obtain⟨_,hs⟩:=zJ hs
 cases e:(Instr.endRound l j).run P' w with
 | halt x y=>rw[e]at hs;cases hs
 | ok v wa =>
   rw[e]at hs;dsimp only at hs
   cases hk with
   | base h=>cases h
   | over hk =>
     have hwa:wa.drawn<=K.lim:=by
      refine Nat.le_trans (Nat.le_of_eq ?_) hd;unfold doReturn at hs;cases hk<;>(simp only[GStep.go.injEq]at hs;rw[hs.2.1])
     obtain⟨R1,b,wa',h1,h2,h3,h4,h5,h6⟩:=jc hw hn (qh.endRound (K:=K) (P':=P') (P:=P) hl j fun f x y ej hy=>(Z.hD f x).2 ⟨((Z.hD f y).1 hy).1,hj x ej⟩) e hwa;rw[h1];exact .after h3 (xy.seen h4) (Xh h6 h2 rfl rfl (hk.mono h3.le) h5 hs)
theorem qes(Z:Cov K P' P c g Sp){w w':World}(hn:yU w)(hw:WR K R w w'){a a':Frame}{k k':List Frame}(ha:FR K P' P R a a')(hk:KR K P' P bs R a.roundOf k k')(hm:a.mode=.run)(hg:∀n,g n=true->R n n){m m':Bool}{g1:Goroutine}{w1:World}{es:Array Event}
 (hs:stepG.exec P' m true a k none w=.go g1 w1 es) (hd0:w1.drawn=K.lim):Qv K P' P Sp bs R w w' g1 w1 (stepG.exec P m' true a' k' none w'):=by
 have hd:=Nat.le_of_eq hd0;obtain⟨fn,ts,td,ds,mode,kind,ro⟩:=a;obtain⟨fn',ts',td',ds',mode',kind',ro'⟩:=a';have ha':=ha;obtain⟨h1,h2,h3,h4,h5,h6,h7,h8,h9⟩:=ha;simp only at h1 h2 h3 h4 h5 h6 h7 h8 h9 hk hm;subst h1 hm h7 h8;have h6:mode'=.run:=by rcases h6 with⟨_,h⟩|⟨h,_⟩;exact h;cases h
 subst h6
 have go:∀{j j':List Item},ItemsR K fn' R j j'->Qv K P' P Sp bs R w w' { frame:={ fn:=fn',tmps:=ts,todo:=j,defers:=ds,mode:=.run,kind:=.normal,roundOf:=ro },callers:=k,status:=.running,dying:=none } w
  (.go { frame:={ fn:=fn',tmps:=ts',todo:=j',defers:=ds',mode:=.run,kind:=.normal,roundOf:=ro' },callers:=k',status:=.running,dying:=none } w' #[]) :=
  fun hj=>.still hn hw ⟨rfl,h2,h3,hj,h5,.inl ⟨rfl,rfl⟩,rfl,rfl,h9⟩ hk
 have ret:Qv K P' P Sp bs R w w' { frame:={ fn:=fn',tmps:=ts,todo:=td,defers:=ds,mode:=.returning,kind:=.normal,roundOf:=ro },callers:=k,status:=.running,dying:=none } w
  (.go { frame:={ fn:=fn',tmps:=ts',todo:=td',defers:=ds',mode:=.returning,kind:=.normal,roundOf:=ro' },callers:=k',status:=.running,dying:=none } w' #[]) :=
  .still hn hw ⟨rfl,h2,h3,h4,h5,.inr ⟨rfl,rfl⟩,rfl,rfl,h9⟩ hk
 have dc:∀{x:Code},K.D fn' x->zQ P c g x=true:=fun h=>((Z.hD _ _).1 h).2;have cd:∀{x:Code},zQ P c g x=true->K.D fn' x:=fun h=>(Z.hD _ _).2 ⟨h2,h⟩;have ro9:∀{R1:Nat->Nat->Prop},(∀b c,R b c->R1 b c)->(ro=none/\ro'=none)\/∃l l',ro=some l/\ro'=some l'/\R1 l l':=fun h=>h9.imp (fun x=>x) fun⟨l,l',p,q,r⟩=>⟨l,l',p,q,h _ _ r⟩;unfold stepG.exec at hs⊢
 cases h4 with
 | nil =>
   rcases h9 with⟨rfl,rfl⟩|⟨l,l',rfl,rfl,hl⟩
   ·simp only[GStep.go.injEq,if_true]at hs⊢;obtain⟨rfl,rfl,_⟩:=hs;exact ret
   ·simp only[Sem.runT_eq]at hs⊢;exact ZC Z hn hw hl hk none (fun x e=>by cases e) hs hd0
 | @cons _ _ kk kk' hi hj =>
   cases hi with
   | inBlock id =>
     simp only[GStep.go.injEq]at hs⊢;obtain⟨rfl,rfl,_⟩:=hs;exact go hj
   | inLoop b hb =>
     simp only[GStep.go.injEq]at hs⊢;obtain⟨rfl,rfl,_⟩:=hs;exact go (.cons (.code b hb) (.cons (.inLoop b hb) hj))
   | inScope b =>
     simp only[GStep.go.injEq]at hs⊢;obtain⟨rfl,rfl,_⟩:=hs;exact go hj
   | inRange hl=>simp only[reduceCtorEq]at hs
   | beginRound =>
     refine Zr Z hn hw ha' hk ?_ hs hd0;rcases h9 with⟨rfl,rfl⟩|⟨l,l',rfl,rfl,hl⟩
     ·exact qh.l qh.halted
     ·exact(qh.beginRound hl).u.l
   | @endRange l l' hl =>
     simp only[Sem.runT_eq]at hs⊢;obtain⟨_,hs⟩:=zJ hs
     cases e:(Instr.endLoop l).run P' w with
     | halt x y =>
       rw[e]at hs
       cases x<;>first
        | (cases hs;done)
        | (simp only[GStep.go.injEq]at hs
           obtain⟨rfl,rfl,_⟩:=hs
           exact .bad (((qh.endLoop (K:=K) (P':=P') (P:=P) Z hl w w' hw).2.1 _ _ e hd).1 hn) ha' hk _)
     | ok v wa =>
       rw[e]at hs;simp only[GStep.go.injEq]at hs;obtain⟨rfl,rfl,_⟩:=hs;obtain⟨R1,b,wa',e1,e2,e3,e4,⟨rfl,e5⟩,e6⟩:=jc hw hn (qh.endLoop (K:=K) (P':=P') (P:=P) Z hl) e hd;rw[e1];refine .after e3 (xy.seen e4) (.still e6 e2 ⟨rfl,h2,h3.mono e3.le,?_,h5.mono e3.le,.inl ⟨rfl,rfl⟩,rfl,rfl,?_⟩ (hk.mono e3.le))
       ·cases b with
        | none=>exact hj.mono e3.le
        | some x=>exact .cons (.code x (cd (e5 x rfl))) (hj.mono e3.le)
       ·exact ro9 e3.le
   | inRegion id ops t hr =>
     cases t with
     | nil =>
       simp only[GStep.go.injEq]at hs⊢;obtain⟨rfl,rfl,_⟩:=hs;exact go hj
     | cons i rest =>
       have hy:Go.yielded ops ts'=Go.yielded ops ts:=funext fun j=>ha'.yielded ops j;simp only[hy]at hs⊢;by_cases hwt:((ops[i]?).map (Region.wanted · (yielded ops ts))).getD false=true
       ·rw[if_pos hwt]at hs;rw[if_pos hwt]
        cases ho:ops[i]? with
        | none=>rw[ho]at hwt;simp at hwt
        | some o =>
          have hop:opB P c g o.op=true:=by
           have:=dc hr;simp only[zQ,Array.all_eq_true']at this;exact this o (Array.mem_of_getElem? ho)
          have hnd:∀cl,o.op≠.defer cl:=fun cl e=>(by rw[e]at hop;simp[opB]at hop);unfold stepG.oper at hs⊢;simp only[Frame.oper?,ho]at hs⊢;split at hs
          ·rename_i _ _ e;exact absurd e (hnd _)
          ·split
           ·rename_i _ _ e;exact absurd e (hnd _)
           ·exact Zr Z hn hw ha' hk (qh.execOp (K:=K) (P':=P') (P:=P) (R:=R) Z.toProgs Z.hc o hop (fun hR x hxo=>ha'.eval Z.hc hg hR x hxo) (fun v=>rfl)) hs hd0
       ·rw[if_neg hwt]at hs;rw[if_neg hwt];simp only[GStep.go.injEq]at hs;obtain⟨rfl,rfl,_⟩:=hs;have:=ha'.finish VR.undef;exact .still hn hw this (by rw[yX];exact hk)
   | code x hx =>
     have hc:=dc hx
     cases x with
     | skip =>
       simp only[GStep.go.injEq]at hs⊢;obtain⟨rfl,rfl,_⟩:=hs;exact go hj
     | label n =>
       simp only[GStep.go.injEq]at hs⊢;obtain⟨rfl,rfl,_⟩:=hs;exact go hj
     | ret =>
       rcases h9 with⟨rfl,rfl⟩|⟨l,l',rfl,rfl,hl⟩
       ·simp only[GStep.go.injEq,if_true]at hs⊢;obtain⟨rfl,rfl,_⟩:=hs;exact ret
       ·simp only[Sem.runT_eq]at hs⊢;exact ZC Z hn hw hl hk (some .ret) (fun x e=>by cases e;rfl) hs hd0
     | exit id =>
       simp only at hs⊢
       cases e:Go.exitTo id kk with
       | some j =>
         obtain⟨j',e',hj'⟩:=hj.exitTo id e;rw[e]at hs;rw[e'];simp only[Option.elim,GStep.go.injEq]at hs⊢;obtain⟨rfl,rfl,_⟩:=hs;exact go hj'
       | none =>
         have e':=hj.exitTo_none id e;rw[e]at hs;rw[e'];simp only[Option.elim]at hs⊢;rcases h9 with⟨rfl,rfl⟩|⟨l,l',rfl,rfl,hl⟩
         ·simp at hs
         ·simp only[Sem.runT_eq]at hs⊢;exact ZC Z hn hw hl hk (some (.exit id)) (fun x e=>by cases e;rfl) hs hd0
     | seq x y =>
       simp only[zQ,Bool.and_eq_true]at hc;simp only[GStep.go.injEq]at hs⊢;obtain⟨rfl,rfl,_⟩:=hs;exact go (.cons (.code x (cd hc.1)) (.cons (.code y (cd hc.2)) hj))
     | cond o x y =>
       simp only[zQ,Bool.and_eq_true]at hc;have hv:=ha'.eval Z.hc hg (fun _ _ h=>h) o hc.1.1;simp only at hs⊢;revert hv hs;generalize Frame.eval { fn:=fn',tmps:=ts,todo:=_,defers:=ds,mode:=.run,kind:=.normal,roundOf:=ro } o=v;generalize Frame.eval { fn:=fn',tmps:=ts',todo:=_,defers:=ds',mode:=.run,kind:=.normal,roundOf:=ro' } o=v';intro hs hv
       cases hv<;>first
        | (cases hs;done)
        | (simp only[GStep.go.injEq]at hs⊢
           obtain⟨rfl,rfl,_⟩:=hs;refine go (.cons (.code _ (cd ?_)) hj);split
           ·exact hc.1.2
           ·exact hc.2)
     | block id b =>
       simp only[zQ]at hc;simp only[GStep.go.injEq]at hs⊢;obtain⟨rfl,rfl,_⟩:=hs;exact go (.cons (.code b (cd hc)) (.cons (.inBlock id) hj))
     | loop b =>
       simp only[zQ]at hc;simp only[GStep.go.injEq]at hs⊢;obtain⟨rfl,rfl,_⟩:=hs;exact go (.cons (.code b (cd hc)) (.cons (.inLoop b (cd hc)) hj))
     | scope b =>
       simp only[zQ]at hc;simp only[GStep.go.injEq]at hs⊢;obtain⟨rfl,rfl,_⟩:=hs;exact go (.cons (.code b (cd hc)) (.cons (.inScope b) hj))
     | region id ops draw =>
       have hr:K.D fn' (.region id ops false):=cd hc
       cases draw with
       | false =>
         simp only[Bool.not_false,if_true,GStep.go.injEq]at hs⊢;obtain⟨rfl,rfl,_⟩:=hs;exact go (.cons (.inRegion id ops _ hr) hj)
       | true =>
         simp only[Bool.not_true,Bool.false_eq_true,if_false]at hs⊢
         cases e:(choose (.order fn' id)).run P' w with
         | halt x y=>rw[e]at hs;cases hs
         | ok t wa =>
           rw[e]at hs;simp only[GStep.go.injEq]at hs;obtain⟨rfl,rfl,_⟩:=hs;obtain⟨R1,b,wa',e1,e2,e3,e4,rfl,e6⟩:=jc hw hn (qh.choose (K:=K) (P':=P') (P:=P) (.order fn' id)) e hd;rw[e1];dsimp only
           have hf:P'.follows .mixedOrders=P.follows .mixedOrders:=by
            have hT:=Z.tables;obtain⟨T',f'⟩:=P';obtain⟨T,f⟩:=P;simp only at hT;subst hT;rfl
           rw[hf];exact⟨e6,.inr ⟨R1,_,_,_,rfl,.inl (.mk ⟨rfl,h2,h3.mono e3.le,.cons (.inRegion id ops _ hr) (hj.mono e3.le),h5.mono e3.le,.inl ⟨rfl,rfl⟩,rfl,rfl,ro9 e3.le⟩ (hk.mono e3.le)),e2,e3,xy.nil⟩⟩
     | rangeFunc f ps x y =>
       simp only[zQ,Bool.and_eq_true]at hc;simp only[Sem.runT_eq]at hs⊢;obtain⟨_,hs⟩:=zJ hs
       cases e:(Instr.enterLoop fn' ts ps x y ro).run P' w with
       | halt x y=>rw[e]at hs;cases hs
       | ok lm wa =>
         rw[e]at hs;obtain⟨l,mark⟩:=lm;dsimp only at hs;have hwa:wa.drawn<=K.lim:=Nat.le_trans (Nat.le_trans (zH _ _ _) (QD hs)) hd;obtain⟨R1,lm',wa',e1,e2,e3,e4,⟨e5,e5'⟩,e6⟩:=jc hw hn (qh.enterLoop (K:=K) (P':=P') (P:=P) h3 ps (cd hc.1.2) (cd hc.2) h9) e hwa;rw[e1];obtain⟨l',mark'⟩:=lm';dsimp only
         have hfr:FR K P' P R1 { fn:=fn',tmps:=ts,todo:=.inRangeFunc l::kk,defers:=mark++ds,mode:=.run,kind:=.normal,roundOf:=ro } { fn:=fn',tmps:=ts',todo:=.inRangeFunc l'::kk',defers:=mark'++ds',mode:=.run,kind:=.normal,roundOf:=ro' } :=
          ⟨rfl,h2,h3.mono e3.le,.cons (.inRange e5) (hj.mono e3.le),e5'.append (h5.mono e3.le),.inl ⟨rfl,rfl⟩,rfl,rfl,ro9 e3.le⟩
         refine .after e3 (xy.seen e4) (Zr Z e6 e2 hfr (hk.mono e3.le) ?_ hs hd0);refine qh.l (qh.invokeValue Z.toProgs ((ha'.mono e3.le).eval Z.hc (fun n h=>e3.le _ _ (hg n h)) (fun _ _ h=>h) f hc.1.1) ?_);simp only[List.map_toArray,List.map_cons,List.map_nil,Frame.eval];exact AR.one (.yld e5)
     | _=>simp[zQ]at hc
theorem qbL(Z:Cov K P' P c g Sp){w w':World}(hn:yU w)(hw:WR K R w w'){a a':Frame}{k k':List Frame}(ha:FR K P' P R a a')(hk:KR K P' P bs R a.roundOf k k')(hm:a.mode=.returning)
 (hl:¬(a.defers=[]/\k=bs.src)) {m m':Bool} {g1:Goroutine} {w1:World} {es:Array Event}
 (hs:unwind P' m a k none w=.go g1 w1 es) (hd0:w1.drawn=K.lim):Qv K P' P Sp bs R w w' g1 w1 (unwind P m' a' k' none w'):=by
 have hd:=Nat.le_of_eq hd0;obtain⟨fn,ts,td,ds,mode,kind,ro⟩:=a;obtain⟨fn',ts',td',ds',mode',kind',ro'⟩:=a';have ha':=ha;obtain⟨h1,h2,h3,h4,h5,h6,h7,h8,h9⟩:=ha;simp only at h1 h2 h3 h4 h5 h6 h7 h8 h9 hk hm hl;subst h1 hm h7 h8;have h6:mode'=.returning:=by rcases h6 with⟨h,_⟩|⟨_,h⟩;cases h;exact h
 subst h6;have ro9:∀{R1:Nat->Nat->Prop},(∀b c,R b c->R1 b c)->(ro=none/\ro'=none)\/∃l l',ro=some l/\ro'=some l'/\R1 l l':=fun h=>h9.imp (fun x=>x) fun⟨l,l',p,q,r⟩=>⟨l,l',p,q,h _ _ r⟩;unfold unwind at hs⊢
 cases h5 with
 | cons hd1 hds =>
   cases hd1 with
   | @collected r r' hr =>
     simp only[Sem.runT_eq]at hs⊢;obtain⟨_,hs⟩:=zJ hs
     cases e:(Instr.takeDeferred r).run P' w with
     | halt x y=>rw[e]at hs;cases hs
     | ok v wa =>
       rw[e]at hs;simp only[GStep.go.injEq]at hs;obtain⟨rfl,rfl,_⟩:=hs;obtain⟨R1,b,wa',e1,e2,e3,e4,⟨rfl,rfl⟩,e6⟩:=jc hw hn (qh.takeDeferred (K:=K) (P':=P') (P:=P) hr) e hd;rw[e1];exact .after e3 (xy.seen e4) (.still e6 e2 ⟨rfl,h2,h3.mono e3.le,h4.mono e3.le,hds.mono e3.le,.inr ⟨rfl,rfl⟩,rfl,rfl,ro9 e3.le⟩ (hk.mono e3.le))
 | nil =>
   obtain⟨F,f1,f2,_⟩:=h2;simp only[f1,f2,Sem.runT_eq]at hs⊢;obtain⟨_,hs⟩:=zJ hs
   cases hk with
   | base _=>exact absurd ⟨rfl,rfl⟩ hl
   | over hk =>
     cases e:(Go.results F ts).run P' w with
     | halt x y=>rw[e]at hs;cases x<;>cases hs
     | ok v wa =>
       rw[e]at hs;dsimp only at hs
       have hwa:wa.drawn<=K.lim:=by
        refine Nat.le_trans (Nat.le_of_eq ?_) hd;unfold doReturn at hs;cases hk<;>(simp only[GStep.go.injEq]at hs;rw[hs.2.1])
       obtain⟨R1,b,wa',e1,e2,e3,e4,e5,e6⟩:=jc hw hn (qh.results (K:=K) (P':=P') (P:=P) Z.toSame F h3) e hwa;rw[e1];exact .after e3 (xy.seen e4) (Xh e6 e2 rfl rfl (hk.mono e3.le) e5 hs)
theorem jW(Z:Cov K P' P c g Sp){w w':World}(hn:yU w)(hw:WR K R w w')(hg:∀n,g n=true->R n n){q q':Goroutine}(hq:GR K P' P bs R q q')(hl:¬yE bs.src q){m m':Bool}{g1:Goroutine}{w1:World}{es:Array Event}
 (hs:stepG P' m q w=.go g1 w1 es) (hd0:w1.drawn=K.lim):Qv K P' P Sp bs R w w' g1 w1 (stepG P m' q' w'):=by
 have hd:=Nat.le_of_eq hd0
 cases hq with
 | @mk a a' k k' ha hk =>
   obtain⟨fn,ts,td,ds,mode,kind,ro⟩:=a;obtain⟨fn',ts',td',ds',mode',kind',ro'⟩:=a';rcases ha.mode with⟨h,h'⟩|⟨h,h'⟩
   ·simp only at h h';subst h h';exact qes Z hn hw ha hk rfl hg hs hd0
   ·simp only at h h';subst h h';exact qbL Z hn hw ha hk rfl (fun⟨x,y⟩=>hl ⟨rfl,x,y⟩) hs hd0
end
def Here(F:World->GStep)(w:World)(g1:Goroutine)(w1:World):Prop:=∀u,Agree w.tape u w.drawn w1.drawn->w.drawn<=w1.drawn/\∃es,F (w.tp u)=.go g1 (w1.tp u) es
theorem xO{es:Array Event}{s:GStep}{g1:Goroutine}{w1:World}{e:Array Event}(h:s=.go g1 w1 e):∃e',GStep.after es s=.go g1 w1 e':=by
 subst h;exact⟨_,rfl⟩
section
variable {K:Cfg} {P' P:Program} {R:Nat->Nat->Prop} {Sp:FuncId->Prop} {c g:Nat->Bool} {bs:Bs}
theorem Zp{w w':World}(hw:WR K R w w'){a:Frame}{k:List Frame}{s s':Sem Next}{Q:(Nat->Nat->Prop)->Next->Next->Prop}(h:jI K P' P R s s' Q){g1:Goroutine}{w1:World}{es:Array Event}
 (hs:stepG.apply P' true a k none s w=.go g1 w1 es) (hd:w1.drawn<=K.lim):Here (stepG.apply P' true a k none s) w g1 w1:=by
 intro u hu;have hle:=QD hs;have ht:=(h w w' hw).2.2 (Nat.le_trans hle hd) u (hu.mono ql hle);have kh:=(h w w' hw).2.1;refine⟨Nat.le_trans (zH _ _ _) hle,?_⟩;unfold stepG.apply at hs⊢;simp only[Sem.runT_eq,if_true]at hs⊢;obtain⟨_,hs⟩:=zJ hs;rw[ht]
 cases e:s.run P' w with
 | halt x y =>
   rw[e]at hs hle;have kh:=(kh x y e (Nat.le_trans hle hd)).2
   cases x with
   | panic v =>
     simp only[GStep.go.injEq]at hs;obtain⟨rfl,rfl,_⟩:=hs;exact xO rfl
   | stuck m=>cases hs
   | unsupported q =>
     cases q<;>first
      | (cases hs;done)
      | (simp[xM]at kh;done)
   | _=>simp[xM]at kh
 | ok n w2 =>
   rw[e]at hs;refine xO (e:=#[]) ?_;cases n<;>(try dsimp only at hs)<;>(try simp only[Result.tp])<;>repeat' (first|(cases hs;done)|(split at hs))
   all_goals first
    | (simp only[GStep.go.injEq]at hs
       obtain⟨h1,h2,_⟩:=hs;subst h1 h2
       rfl)
    | (simp only[endThrow,dieOf,GStep.go.injEq]at hs
       obtain⟨h1,h2,_⟩:=hs;subst h1 h2
       rfl)
    | (simp only[GStep.go.injEq]at hs
       obtain⟨h1,h2,_⟩:=hs;subst h1 h2
       simp_all)
    | (simp only[endThrow,dieOf,GStep.go.injEq]at hs
       obtain⟨h1,h2,_⟩:=hs;subst h1 h2
       simp_all[endThrow,dieOf])
theorem jb{α β:Type}{s:Sem α}{s':Sem β}{Q:(Nat->Nat->Prop)->α->β->Prop}{w w':World}(hw:WR K R w w')(h:qh K P' P R s s' Q){a:α}{wa:World}(e:s.run P' w=.ok a wa)(hd:wa.drawn<=K.lim)
 {u:Nat->Question->Nat} {n:Nat} (hn:wa.drawn<=n) (hu:Agree w.tape u w.drawn n):s.run P' (w.tp u)=.ok a (wa.tp u):=by
 have:=(h w w' hw).2.2 (by rw[e];exact hd) u (by rw[e];exact hu.mono ql hn);rw[e]at this;exact this
theorem qfx{α β:Type}{s:Sem α}{s':Sem β}{Q:(Nat->Nat->Prop)->α->β->Prop}{w w':World}(hw:WR K R w w')(h:qh K P' P R s s' Q){x:Halt}{wa:World}(e:s.run P' w=.halt x wa)(hd:wa.drawn<=K.lim)
 {u:Nat->Question->Nat} {n:Nat} (hn:wa.drawn<=n) (hu:Agree w.tape u w.drawn n):s.run P' (w.tp u)=.halt x (wa.tp u):=by
 have:=(h w w' hw).2.2 (by rw[e];exact hd) u (by rw[e];exact hu.mono ql hn);rw[e]at this;exact this
theorem Xg{wa w1:World}{u:Nat->Question->Nat}{a:Frame}{k k':List Frame}(hk:FsR K P' P bs R k k')(hkd:a.kind=.normal){v:Value}{m:Bool}{g1:Goroutine}{es:Array Event}
 (hs:doReturn P' m a k none v wa=.go g1 w1 es):w1=wa/\doReturn P' m a k none v (wa.tp u)=.go g1 (w1.tp u) es:=by
 unfold doReturn at hs⊢;cases hk<;>(simp only[hkd,GStep.go.injEq]at hs⊢;obtain⟨h1,h2,h3⟩:=hs;subst h1 h2 h3;exact⟨rfl,rfl,rfl,rfl⟩)
theorem ZB(Z:Cov K P' P c g Sp){w w':World}(hw:WR K R w w'){fn:FuncId}{ts:Array Value}{td:List Item}{ds:List Deferred}{l l':Nat}{k k':List Frame}
 (hl:R l l') (hk:KR K P' P bs R (some l) k k') (j:Option Code) (hj:∀x,j=some x->zQ P c g x=true) {m:Bool} {s:String} {g1:Goroutine} {w1:World} {es:Array Event}
 (hs:(GStep.after (seen P' fn ((Instr.endRound l j).events P' w #[])) (match (Instr.endRound l j).run P' w with
    | .ok v w=>doReturn P' m { fn,tmps:=ts,todo:=td,defers:=ds,mode:=.run,kind:=.normal,roundOf:=some l } k none v w
    | .halt _ w=>.ended (.stuck "range over a function: no such loop" s) w))=.go g1 w1 es) (hd:w1.drawn<=K.lim) {u:Nat->Question->Nat} (hu:Agree w.tape u w.drawn w1.drawn) :
 w.drawn<=w1.drawn/\∃es',(GStep.after (seen P' fn ((Instr.endRound l j).events P' (w.tp u) #[])) (match (Instr.endRound l j).run P' (w.tp u)with
  | .ok v w=>doReturn P' m { fn,tmps:=ts,todo:=td,defers:=ds,mode:=.run,kind:=.normal,roundOf:=some l } k none v w
  | .halt _ w=>.ended (.stuck "range over a function: no such loop" s) w))=.go g1 (w1.tp u) es':=by
 obtain⟨_,hs⟩:=zJ hs
 cases e:(Instr.endRound l j).run P' w with
 | halt x y=>rw[e]at hs;cases hs
 | ok v wa =>
   rw[e]at hs;dsimp only at hs
   cases hk with
   | base h=>cases h
   | over hk =>
     obtain⟨hwa,hs2⟩:=Xg (u:=u) hk rfl hs;subst hwa;rw[jb hw (qh.endRound (K:=K) (P':=P') (P:=P) hl j fun f x y ej hy=>(Z.hD f x).2 ⟨((Z.hD f y).1 hy).1,hj x ej⟩) e hd ql hu];exact⟨zC P' _ e,xO hs2⟩
theorem qeq(Z:Cov K P' P c g Sp){w w':World}(hw:WR K R w w'){a a':Frame}{k k':List Frame}(ha:FR K P' P R a a')(hk:KR K P' P bs R a.roundOf k k')(hm:a.mode=.run)(hg:∀n,g n=true->R n n){m:Bool}{g1:Goroutine}{w1:World}{es:Array Event}
 (hs:stepG.exec P' m true a k none w=.go g1 w1 es) (hd:w1.drawn<=K.lim):Here (stepG.exec P' m true a k none) w g1 w1:=by
 intro u hu;obtain⟨fn,ts,td,ds,mode,kind,ro⟩:=a;obtain⟨fn',ts',td',ds',mode',kind',ro'⟩:=a';have ha':=ha;obtain⟨h1,h2,h3,h4,h5,h6,h7,h8,h9⟩:=ha;simp only at h1 h2 h3 h4 h5 h6 h7 h8 h9 hk hm;subst h1 hm h7 h8;have h6:mode'=.run:=by rcases h6 with⟨_,h⟩|⟨h,_⟩;exact h;cases h
 subst h6;have dc:∀{x:Code},K.D fn' x->zQ P c g x=true:=fun h=>((Z.hD _ _).1 h).2;have cd:∀{x:Code},zQ P c g x=true->K.D fn' x:=fun h=>(Z.hD _ _).2 ⟨h2,h⟩;have ro9:∀{R1:Nat->Nat->Prop},(∀b c,R b c->R1 b c)->(ro=none/\ro'=none)\/∃l l',ro=some l/\ro'=some l'/\R1 l l':=fun h=>h9.imp (fun x=>x) fun⟨l,l',p,q,r⟩=>⟨l,l',p,q,h _ _ r⟩;unfold stepG.exec at hs⊢
 have pure1:∀{q:Goroutine},GStep.go q w #[]=.go g1 w1 es->w.drawn<=w1.drawn/\∃es',GStep.go q (w.tp u) #[]=.go g1 (w1.tp u) es':=fun h=>by
  simp only[GStep.go.injEq]at h;obtain⟨rfl,rfl,_⟩:=h;exact⟨ql,_,rfl⟩
 cases h4 with
 | nil =>
   rcases h9 with⟨rfl,rfl⟩|⟨l,l',rfl,rfl,hl⟩
   ·simp only[if_true]at hs⊢;exact pure1 hs
   ·simp only[Sem.runT_eq]at hs⊢;exact ZB Z hw hl hk none (fun x e=>by cases e) hs hd hu
 | @cons _ _ kk kk' hi hj =>
   cases hi with
   | inBlock id=>exact pure1 hs
   | inLoop b hb=>exact pure1 hs
   | inScope b=>exact pure1 hs
   | inRange hl=>simp only[reduceCtorEq]at hs
   | beginRound =>
     refine Zp (P:=P) hw (Q:=fun R1 x y=>NextR K R1 x y) (s':=do ro'.elim (Go.stuck "beginRound: no round") Instr.beginRound;Pure.pure .skip) ?_ hs hd u hu;rcases h9 with⟨rfl,rfl⟩|⟨l,l',rfl,rfl,hl⟩
     ·exact qh.l qh.halted
     ·exact(qh.beginRound hl).u.l
   | @endRange l l' hl =>
     simp only[Sem.runT_eq]at hs⊢;obtain⟨_,hs⟩:=zJ hs
     cases e:(Instr.endLoop l).run P' w with
     | halt x y =>
       rw[e]at hs
       cases x<;>first
        | (cases hs;done)
        | (simp only[GStep.go.injEq]at hs
           obtain⟨h1,h2,_⟩:=hs;subst h1 h2;rw[qfx hw (qh.endLoop (K:=K) (P':=P') (P:=P) Z hl) e hd ql hu]
           exact⟨Qe P' _ e,xO rfl⟩)
     | ok v wa =>
       rw[e]at hs;simp only[GStep.go.injEq]at hs;obtain⟨h1,h2,_⟩:=hs;subst h1 h2;rw[jb hw (qh.endLoop (K:=K) (P':=P') (P:=P) Z hl) e hd ql hu];exact⟨zC P' _ e,xO rfl⟩
   | inRegion id ops t hr =>
     cases t with
     | nil=>exact pure1 hs
     | cons i rest =>
       simp only at hs⊢;by_cases hwt:((ops[i]?).map (Region.wanted · (yielded ops ts))).getD false=true
       ·rw[if_pos hwt]at hs;rw[if_pos hwt]
        cases ho:ops[i]? with
        | none=>rw[ho]at hwt;simp at hwt
        | some o =>
          have hop:opB P c g o.op=true:=by
           have:=dc hr;simp only[zQ,Array.all_eq_true']at this;exact this o (Array.mem_of_getElem? ho)
          have hnd:∀cl,o.op≠.defer cl:=fun cl e=>(by rw[e]at hop;simp[opB]at hop);unfold stepG.oper at hs⊢;simp only[Frame.oper?,ho]at hs⊢;split at hs
          ·rename_i _ _ e;exact absurd e (hnd _)
          ·exact Zp hw (qh.execOp (K:=K) (P':=P') (P:=P) (R:=R) Z.toProgs Z.hc o hop (fun hR x hxo=>ha'.eval Z.hc hg hR x hxo) (fun v=>rfl)) hs hd u hu
       ·rw[if_neg hwt]at hs;rw[if_neg hwt];exact pure1 hs
   | code x hx =>
     have hc:=dc hx
     cases x with
     | skip=>exact pure1 hs
     | label n=>exact pure1 hs
     | ret =>
       rcases h9 with⟨rfl,rfl⟩|⟨l,l',rfl,rfl,hl⟩
       ·simp only[if_true]at hs⊢;exact pure1 hs
       ·simp only[Sem.runT_eq]at hs⊢;exact ZB Z hw hl hk (some .ret) (fun x e=>by cases e;rfl) hs hd hu
     | exit id =>
       simp only at hs⊢
       cases e:Go.exitTo id kk with
       | some j =>
         rw[e]at hs;simp only[Option.elim]at hs⊢;exact pure1 hs
       | none =>
         rw[e]at hs;simp only[Option.elim]at hs⊢;rcases h9 with⟨rfl,rfl⟩|⟨l,l',rfl,rfl,hl⟩
         ·simp at hs
         ·simp only[Sem.runT_eq]at hs⊢;exact ZB Z hw hl hk (some (.exit id)) (fun x e=>by cases e;rfl) hs hd hu
     | seq x y=>exact pure1 hs
     | cond o x y =>
       simp only at hs⊢;revert hs;generalize Frame.eval { fn:=fn',tmps:=ts,todo:=_,defers:=ds,mode:=.run,kind:=.normal,roundOf:=ro } o=v;intro hs
       cases v<;>first
        | (simp only[reduceCtorEq]at hs;done)
        | exact pure1 hs
     | block id b=>exact pure1 hs
     | loop b=>exact pure1 hs
     | scope b=>exact pure1 hs
     | region id ops draw =>
       cases draw with
       | false =>
         simp only[Bool.not_false,if_true]at hs⊢;exact pure1 hs
       | true =>
         simp only[Bool.not_true,Bool.false_eq_true,if_false]at hs⊢
         cases e:(choose (.order fn' id)).run P' w with
         | halt x y=>rw[e]at hs;cases hs
         | ok t wa =>
           rw[e]at hs;simp only[GStep.go.injEq]at hs;obtain⟨h1,h2,_⟩:=hs;subst h1 h2;rw[jb hw (qh.choose (K:=K) (P':=P') (P:=P) (.order fn' id)) e hd ql hu];exact⟨zC P' _ e,_,rfl⟩
     | rangeFunc f ps x y =>
       simp only[zQ,Bool.and_eq_true]at hc;simp only[Sem.runT_eq]at hs⊢;obtain⟨_,hs⟩:=zJ hs
       cases e:(Instr.enterLoop fn' ts ps x y ro).run P' w with
       | halt x y=>rw[e]at hs;cases hs
       | ok lm wa =>
         rw[e]at hs;obtain⟨l,mark⟩:=lm;dsimp only at hs;have hle:wa.drawn<=w1.drawn:=Nat.le_trans (zH _ _ _) (QD hs);have hwa:wa.drawn<=K.lim:=Nat.le_trans hle hd;have hEL:=qh.enterLoop (K:=K) (P':=P') (P:=P) h3 ps (cd hc.1.2) (cd hc.2) h9;obtain⟨R1,lm',wa',e1,e2,e3,e4,⟨e5,e5'⟩,e6⟩:=(hEL w w' hw).1 _ _ e hwa;rw[jb hw hEL e hwa hle hu];dsimp only
         have hfr:FR K P' P R1 { fn:=fn',tmps:=ts,todo:=.inRangeFunc l::kk,defers:=mark++ds,mode:=.run,kind:=.normal,roundOf:=ro } { fn:=fn',tmps:=ts',todo:=.inRangeFunc lm'.1::kk',defers:=lm'.2++ds',mode:=.run,kind:=.normal,roundOf:=ro' } :=
          ⟨rfl,h2,h3.mono e3.le,.cons (.inRange e5) (hj.mono e3.le),e5'.append (h5.mono e3.le),.inl ⟨rfl,rfl⟩,rfl,rfl,ro9 e3.le⟩
         obtain⟨hd2,es',h'⟩:=Zp (P:=P) e2 (Q:=fun R1 x y=>NextR K R1 x y) (s':=do
          let d <-resolve (Frame.eval { fn:=fn',tmps:=ts',todo:=.inRangeFunc lm'.1::kk',defers:=lm'.2++ds',mode:=.run,kind:=.normal,roundOf:=ro' }) { callee:=.value f,args:=#[.const (.func (.yield lm'.1) #[] #[])],argTypes:=#[] } 0
          invoke d.target d.args) (by
          refine qh.l (qh.invokeValue Z.toProgs ((ha'.mono e3.le).eval Z.hc (fun n h=>e3.le _ _ (hg n h)) (fun _ _ h=>h) f hc.1.1) ?_);simp only[List.map_toArray,List.map_cons,List.map_nil,Frame.eval]
          exact AR.one (.yld e5)) hs hd u (by rw[e3.tp];exact hu.mono (zC P' _ e) ql)
         exact⟨Nat.le_trans (zC P' _ e) hd2,xO h'⟩
     | _=>simp[zQ]at hc
theorem qbK(Z:Cov K P' P c g Sp){w w':World}(hw:WR K R w w'){a a':Frame}{k k':List Frame}(ha:FR K P' P R a a')(hk:KR K P' P bs R a.roundOf k k')(hm:a.mode=.returning)
 (hl:¬(a.defers=[]/\k=bs.src)) {m:Bool} {g1:Goroutine} {w1:World} {es:Array Event}
 (hs:unwind P' m a k none w=.go g1 w1 es) (hd:w1.drawn<=K.lim):Here (unwind P' m a k none) w g1 w1:=by
 intro u hu;obtain⟨fn,ts,td,ds,mode,kind,ro⟩:=a;obtain⟨fn',ts',td',ds',mode',kind',ro'⟩:=a';obtain⟨h1,h2,h3,h4,h5,h6,h7,h8,h9⟩:=ha;simp only at h1 h2 h3 h4 h5 h6 h7 h8 h9 hk hm hl;subst h1 hm h7 h8;unfold unwind at hs⊢
 cases h5 with
 | cons hd1 hds =>
   cases hd1 with
   | @collected r r' hr =>
     simp only[Sem.runT_eq]at hs⊢;obtain⟨_,hs⟩:=zJ hs
     cases e:(Instr.takeDeferred r).run P' w with
     | halt x y=>rw[e]at hs;cases hs
     | ok v wa =>
       rw[e]at hs;simp only[GStep.go.injEq]at hs;obtain⟨h1,h2,_⟩:=hs;subst h1 h2;rw[jb hw (qh.takeDeferred (K:=K) (P':=P') (P:=P) hr) e hd ql hu];exact⟨zC P' _ e,xO rfl⟩
 | nil =>
   obtain⟨F,f1,f2,_⟩:=h2;simp only[f1,Sem.runT_eq]at hs⊢;obtain⟨_,hs⟩:=zJ hs
   cases hk with
   | base _=>exact absurd ⟨rfl,rfl⟩ hl
   | over hk =>
     cases e:(Go.results F ts).run P' w with
     | halt x y=>rw[e]at hs;cases x<;>cases hs
     | ok v wa =>
       rw[e]at hs;dsimp only at hs;obtain⟨hwa,hs2⟩:=Xg (u:=u) hk rfl hs;subst hwa;rw[jb hw (qh.results (K:=K) (P':=P') (P:=P) Z.toSame F h3) e hd ql hu];exact⟨zC P' _ e,xO hs2⟩
theorem qgd(Z:Cov K P' P c g Sp){w w':World}(hw:WR K R w w')(hg:∀n,g n=true->R n n){q q':Goroutine}(hq:GR K P' P bs R q q')(hl:¬yE bs.src q){m:Bool}{g1:Goroutine}{w1:World}{es:Array Event}
 (hs:stepG P' m q w=.go g1 w1 es) (hd:w1.drawn<=K.lim):Here (fun w=>stepG P' m q w) w g1 w1:=by
 cases hq with
 | @mk a a' k k' ha hk =>
   obtain⟨fn,ts,td,ds,mode,kind,ro⟩:=a;rcases ha.mode with⟨h,h'⟩|⟨h,h'⟩
   ·simp only at h;subst h;exact qeq Z hw ha hk rfl hg hs hd
   ·simp only at h;subst h;exact qbK Z hw ha hk rfl (fun⟨x,y⟩=>hl ⟨rfl,x,y⟩) hs hd
end
def Cfg.at(K:Cfg)(n:Nat):Cfg:={ K with lim:=n }
section
variable {K:Cfg} {P' P:Program} {R:Nat->Nat->Prop} {f:FuncId} {bs:Bs} (n:Nat)
theorem ItemR.at{i i':Item}(x:ItemR K f R i i'):ItemR (K.at n) f R i i':=by
 cases x with
 | code c d=>exact .code c d
 | inBlock id=>exact .inBlock id
 | inLoop b d=>exact .inLoop b d
 | inScope b=>exact .inScope b
 | inRegion id ops t d=>exact .inRegion id ops t d
 | inRange r=>exact .inRange r
 | endRange r=>exact .endRange r
 | beginRound=>exact .beginRound
theorem ItemsR.at{i i':List Item}(x:ItemsR K f R i i'):ItemsR (K.at n) f R i i':=by
 induction x with
 | nil=>exact .nil
 | cons a _ ih=>exact .cons (a.at n) ih
theorem FR.at{a a':Frame}(x:FR K P' P R a a'):FR (K.at n) P' P R a a':=⟨x.fn,x.std,x.tmps,x.todo.at n,x.defers,x.mode,x.kind,x.kind',x.round⟩
theorem FsR.at{a a':List Frame}(x:FsR K P' P bs R a a'):FsR (K.at n) P' P bs R a a':=by
 induction x with
 | one a b=>exact .one (a.at n) b
 | cons a _ ih=>exact .cons (a.at n) ih
theorem KR.at{ro:Option Nat}{a a':List Frame}(x:KR K P' P bs R ro a a'):KR (K.at n) P' P bs R ro a a':=by
 cases x with
 | base e=>exact .base e
 | over k=>exact .over (k.at n)
theorem GR.at{a a':Goroutine}(x:GR K P' P bs R a a'):GR (K.at n) P' P bs R a a':=by
 cases x with|mk a b=>exact .mk (a.at n) (b.at n)
theorem GR.un{a a':Goroutine}{n:Nat}(x:GR (K.at n) P' P bs R a a'):GR K P' P bs R a a':=x.at K.lim
theorem FsR.un{a a':List Frame}{n:Nat}(x:FsR (K.at n) P' P bs R a a'):FsR K P' P bs R a a':=x.at K.lim
theorem Cov.at{c g:Nat->Bool}{Sp:FuncId->Prop}(Z:Cov K P' P c g Sp):Cov (K.at n) P' P c g Sp :=
 { tables:=Z.tables,zero:=Z.zero,ng:=Z.ng,call:=Z.call,hc:=Z.hc,hD:=Z.hD,body:=Z.body }
theorem ji.un{Sp:FuncId->Prop}{a a':Goroutine}{n:Nat}(x:ji (K.at n) P' P Sp bs R a a'):ji K P' P Sp bs R a a':=by
 obtain⟨f,xs,xs',k,k',h1,h2,h3,h4,h5⟩:=x;exact⟨f,xs,xs',k,k',h1,h2,h3.un,h4,h5⟩
theorem Ext.un{R1:Nat->Nat->Prop}{w w' w1 w1':World}{n:Nat}(x:Ext (K.at n) R R1 w w' w1 w1'):Ext K R R1 w w' w1 w1':=⟨x.le,x.new,x.size,x.size',x.stay,x.tp,x.tp',x.os',x.out',x.held⟩
theorem EvR.un{e:Event}{n:Nat}(x:EvR (K.at n) R e):EvR K R e:=by
 cases x with
 | cell a wr b x y=>exact .cell a wr b x y
 | obj r wr b x y=>exact .obj r wr b x y
 | room=>exact .room
theorem xy.un{es:Array Event}{n:Nat}(x:xy (K.at n) R es):xy K R es:=fun e he=>(x e he).un
end
structure W0 (K:Cfg) (R:Nat->Nat->Prop) (w w':World):Prop where
 fn:∀b c d,R b c->R b d->c=d
 inj:∀b c d,R b d->R c d->b=c
 obj:∀b c,R b c->∃o o',w.heap[b]? = some o/\w'.heap[c]? = some o'/\OR K.C K.D R o o'
 fz:∀b,K.Fz b->∃c e hi,w.heap[b]? = some (.cells c e (0,hi))/\c.size<=hi
 glob:∀b c,R b c->(b<K.ng↔c<K.ng)
 big:K.ng<=w.heap.size
 big':K.ng<=w'.heap.size
theorem WR.w0{K:Cfg}{R:Nat->Nat->Prop}{w w':World}{n:Nat}(h:WR (K.at n) R w w'):W0 K R w w':=⟨h.fn,h.inj,h.obj,h.fz,h.glob,h.big,h.big'⟩
theorem W0.wr{K:Cfg}{R:Nat->Nat->Prop}{w w':World}(h:W0 K R w w')(n:Nat)(t:∀i q,w.drawn+i<n->w'.tape (w'.drawn+i) q=w.tape (w.drawn+i) q):WR (K.at n) R w w':=⟨h.fn,h.inj,h.obj,h.fz,t,h.glob,h.big,h.big'⟩
theorem W0.tp{K:Cfg}{R:Nat->Nat->Prop}{w w':World}(h:W0 K R w w')(t:Nat->Question->Nat):W0 K R (w.tp t) w':=⟨h.fn,h.inj,h.obj,h.fz,h.glob,h.big,h.big'⟩
section
variable (P':Program) (m:Bool) (Fin:Goroutine->World->Prop)
inductive Reach:Goroutine->World->Prop
 | fin {g:Goroutine} {w:World}:Leaves g->Fin g w->Reach g w
 | step {g g1:Goroutine} {w w1:World} {es:Array Event}:¬Leaves g->stepG P' m g w=.go g1 w1 es->Reach g1 w1->Reach g w
inductive LT:Goroutine->World->Prop
 | fin {g:Goroutine} {w:World}:Leaves g->(∀t,Fin g (w.tp t))->LT g w
 | step {g:Goroutine} {w:World}:¬Leaves g->(nx:(Nat->Question->Nat)->Goroutine×World)->(∀t,∃es,stepG P' m g (w.tp t)=.go (nx t).1 (nx t).2 es/\¬Bad (nx t).1)->(∀t,LT (nx t).1 (nx t).2)->LT g w
end
theorem Reach.notBad{P':Program}{m:Bool}{Fin:Goroutine->World->Prop}{g:Goroutine}{w:World}(h:Reach P' m Fin g w):yU w->¬Bad g:=by
 induction h with
 | fin h _=>exact fun _ hb=>hb.notLeaves h
 | step _ hs _ ih =>
   intro hn hb;obtain⟨h1,h2⟩:=hb.step hn hs;exact ih h2 h1
section
variable {K:Cfg} {P':Program} {c g:Nat->Bool} {m:Bool} {Fin:Goroutine->World->Prop}
def Ym(K:Cfg)(P':Program)(g:Nat->Bool)(q:Goroutine)(w:World):Prop :=
 ∃R,GR K P' P' (.lone [c0]) R q q/\W0 K R w w/\yU w/\∀n,g n=true->R n n
theorem Ym.turn(Z:Cov K P' P' c g (fun _=>False)){q:Goroutine}{w:World}(h:Ym K P' g q w)(hl:¬Leaves q)(t:Nat->Question->Nat){g1:Goroutine}{w1:World}{es:Array Event}(hs:stepG P' m q (w.tp t)=.go g1 w1 es) :
 Here (fun w=>stepG P' m q w) (w.tp t) g1 w1/\(¬Bad g1->Ym K P' g g1 w1):=by
 obtain⟨R,hg,hw,hn,hR⟩:=h;have hw':WR (K.at w1.drawn) R (w.tp t) (w.tp t):=W0.wr (⟨hw.fn,hw.inj,hw.obj,hw.fz,hw.glob,hw.big,hw.big'⟩:W0 K R (w.tp t) (w.tp t)) _ fun _ _ _=>rfl;refine⟨qgd (Z.at _) hw' hR (hg.at _) hl hs ql,fun hb=>?_⟩;obtain⟨h1,h2⟩:=jW (m':=m) (Z.at _) (show yU (w.tp t)from hn) hw' hR (hg.at _) hl hs rfl;rcases h2 with h2|⟨R1,g1',w1',es',e,h2,h3,h4,_⟩
 ·exact absurd h2 hb
 ·rw[hs]at e;simp only[GStep.go.injEq]at e;obtain⟨rfl,rfl,_⟩:=e;rcases h2 with h2|⟨_,_,_,_,_,h,_⟩
  ·exact⟨R1,h2.un,h3.w0,h1,fun n hn=>h4.le _ _ (hR n hn)⟩
  ·exact h.elim
theorem LT.mk_step{q:Goroutine}{w:World}(hl:¬Leaves q)(h:∀t,∃g1 w1 es,stepG P' m q (w.tp t)=.go g1 w1 es/\¬Bad g1/\LT P' m Fin g1 w1):LT P' m Fin q w:=by
 exact .step hl (fun t=>((h t).choose,(h t).choose_spec.choose)) (fun t=>⟨(h t).choose_spec.choose_spec.choose,(h t).choose_spec.choose_spec.choose_spec.1,(h t).choose_spec.choose_spec.choose_spec.2.1⟩) fun t=>(h t).choose_spec.choose_spec.choose_spec.2.2
theorem least{p:Nat->Prop}(h:∃n,p n):∃n,p n/\∀k,k<n->¬p k:=by
 obtain⟨n,hn⟩:=h
 induction n using Nat.strongRecOn with
 | _ n ih =>
   rcases Classical.em (∃k,k<n/\p k)with⟨k,hk,hp⟩|hc
   ·exact ih k hk hp
   ·exact⟨n,hn,fun k hk hp=>hc ⟨k,hk,hp⟩⟩
theorem LT.of_reach(Z:Cov K P' P' c g (fun _=>False))(hF:∀q w t,Fin q w->Fin q (w.tp t)){q0:Goroutine}{w0:World}(h0:Ym K P' g q0 w0)(hr:∀t,Reach P' m Fin q0 (w0.tp t)):LT P' m Fin q0 w0:=by
 classical
 refine Classical.byContradiction fun hno=>?_
 let St:={ s:Goroutine×World // Ym K P' g s.1 s.2/\¬LT P' m Fin s.1 s.2 }
 have nxt:∀s:St,∃(t:Nat->Question->Nat) (s':St),¬Leaves s.1.1->∀g1 w1 es,stepG P' m s.1.1 (s.1.2.tp t)=.go g1 w1 es->¬Bad g1->s'.1=(g1,w1):=by
  intro s;by_cases hl:Leaves s.1.1
  ·exact⟨fun _ _=>0,s,fun h=>absurd hl h⟩
  ·have:∃t,∀g1 w1 es,stepG P' m s.1.1 (s.1.2.tp t)=.go g1 w1 es->¬Bad g1->¬LT P' m Fin g1 w1:=by
    refine Classical.byContradiction fun hc=>s.2.2 (LT.mk_step hl fun t=>?_);have h1:=not_exists.1 hc t;refine Classical.byContradiction fun hc2=>h1 fun g1 w1 es e1 e2 e3=>hc2 ⟨g1,w1,es,e1,e2,e3⟩
   obtain⟨t,ht⟩:=this;by_cases hg:∃g1 w1 es,stepG P' m s.1.1 (s.1.2.tp t)=.go g1 w1 es/\¬Bad g1
   ·obtain⟨g1,w1,es,e1,e2⟩:=hg;refine⟨t,⟨(g1,w1),(s.2.1.turn Z hl t e1).2 e2,ht g1 w1 es e1 e2⟩,fun _ g2 w2 es2 e3 _=>?_⟩;rw[e1]at e3;simp only[GStep.go.injEq]at e3;obtain⟨rfl,rfl,_⟩:=e3;rfl
   ·exact⟨t,s,fun _ g1 w1 es e1 e2=>absurd ⟨g1,w1,es,e1,e2⟩ hg⟩
 let tau:St->Nat->Question->Nat:=fun s=>(nxt s).choose
 let suc:St->St:=fun s=>(nxt s).choose_spec.choose
 have hsuc:∀s:St,¬Leaves s.1.1->∀g1 w1 es,stepG P' m s.1.1 (s.1.2.tp (tau s))=.go g1 w1 es->¬Bad g1->(suc s).1=(g1,w1):=fun s=>(nxt s).choose_spec.choose_spec
 let sq:Nat->St:=fun n=>Nat.rec ⟨(q0,w0),h0,hno⟩ (fun _ s=>suc s) n
 have sq0:(sq 0).1=(q0,w0):=rfl;have sqs:∀n,sq (n+1)=suc (sq n):=fun n=>rfl
 let D:Nat->Nat:=fun n=>(sq n).1.2.drawn
 let Al:Nat->Prop:=fun n=>¬Leaves (sq n).1.1/\∃g1 w1 es,stepG P' m (sq n).1.1 ((sq n).1.2.tp (tau (sq n)))=.go g1 w1 es/\¬Bad g1
 have al:∀n,Al n->∃es,stepG P' m (sq n).1.1 ((sq n).1.2.tp (tau (sq n)))=.go (sq (n+1)).1.1 (sq (n+1)).1.2 es:=by
  rintro n ⟨h1,g1,w1,es,e1,e2⟩;have:=hsuc (sq n) h1 g1 w1 es e1 e2;rw[sqs,this];exact⟨es,e1⟩
 have mono:∀n,Al n->D n<=D (n+1):=by
  intro n h;obtain⟨es,e⟩:=al n h;exact(((sq n).2.1.turn Z h.1 (tau (sq n)) e).1 (tau (sq n)) fun _ _ _ _=>rfl).1
 have monos:∀n i,i<=n->(∀j,j<n->Al j)->D i<=D n:=by
  intro n
  induction n with
  | zero=>intro i hi _;obtain rfl:i=0:=by omega
          exact ql
  | succ n ih =>
    intro i hi hA;rcases Nat.lt_or_ge i (n+1)with h|h
    ·exact Nat.le_trans (ih i (by omega) fun j hj=>hA j (by omega)) (mono n (hA n (by omega)))
    ·obtain rfl:i=n+1:=(by omega);exact ql
 let In:Nat->Nat->Prop:=fun i n=>D n<=i/\(i<D (n+1)\/¬Al n)
 let ts:Nat->Question->Nat:=fun i x=>if h:∃n,In i n then tau (sq (least h).choose) i x else 0
 have tsE:∀n i x,(∀j,j<n->Al j)->In i n->ts i x=tau (sq n) i x:=by
  intro n i x hA hi;have hex:∃n,In i n:=⟨n,hi⟩
  have hf:(least hex).choose=n:=by
   obtain⟨h3,h1⟩:=(least hex).choose_spec;revert h3 h1;generalize(least hex).choose=k;intro h3 h1;rcases Nat.lt_trichotomy k n with h2|h2|h2
   ·have h4:=monos n (k+1) (by omega) hA;rcases h3.2 with h5|h5
    ·have:=hi.1;omega
    ·exact absurd (hA _ h2) h5
   ·exact h2
   ·exact absurd hi (h1 n h2)
  simp only[ts,dif_pos hex,hf]
 have fin:∀q w,Reach P' m Fin q w->∀n,(∀j,j<n->Al j)->q=(sq n).1.1->w=(sq n).1.2.tp ts->False:=by
  intro q w hq
  induction hq with
  | fin hl hf =>
    rintro n hA rfl rfl;exact(sq n).2.2 (.fin hl fun t=>hF _ ((sq n).1.2.tp ts) t hf)
  | @step q g1 w w1 es hl hs hr ih =>
    rintro n hA rfl rfl
    have hnb:¬Bad g1:=by
     obtain⟨R,hg,hw,hn,hR⟩:=(sq n).2.1;refine hr.notBad ?_;have hw':WR (K.at w1.drawn) R ((sq n).1.2.tp ts) ((sq n).1.2.tp ts):=W0.wr (⟨hw.fn,hw.inj,hw.obj,hw.fz,hw.glob,hw.big,hw.big'⟩:W0 K R ((sq n).1.2.tp ts) ((sq n).1.2.tp ts)) _ fun _ _ _=>rfl;exact(jW (m':=m) (Z.at _) (show yU ((sq n).1.2.tp ts)from hn) hw' hR (hg.at _) hl hs rfl).1
    have hAn:Al n:=by
     refine Classical.byContradiction fun hna=>hna ⟨hl,?_⟩;have hh:=((sq n).2.1.turn Z hl ts hs).1 (tau (sq n)) fun i x h1 h2=>(tsE n i x hA ⟨h1,.inr hna⟩).symm;obtain⟨_,es',h'⟩:=hh;exact⟨g1,_,es',h',hnb⟩
    obtain⟨es2,e2⟩:=al n hAn;have hh:=((sq n).2.1.turn Z hl (tau (sq n)) e2).1 ts fun i x h1 h2=>tsE n i x hA ⟨h1,.inl h2⟩;obtain⟨_,es',h'⟩:=hh;have h':stepG P' m (sq n).1.1 ((sq n).1.2.tp ts)=.go (sq (n+1)).1.1 ((sq (n+1)).1.2.tp ts) es':=h';rw[hs]at h';simp only[GStep.go.injEq]at h'
    exact ih (n+1) (fun j hj=>by
     rcases Nat.lt_or_ge j n with h|h
     ·exact hA j h
     ·obtain rfl:j=n:=by omega
      exact hAn) h'.1 h'.2.1
 exact fin _ _ (hr ts) 0 (fun j hj=>by omega) rfl rfl
end
def qP(s:GStep):Prop:=(∃g1 w1 es,s=.go g1 w1 es)\/∃o w1 es,s=.ended o w1 es
theorem qP.after{es:Array Event}{s:GStep}(h:qP s):qP (GStep.after es s):=by
 rcases h with⟨_,_,_,rfl⟩|⟨_,_,_,rfl⟩
 ·exact .inl ⟨_,_,_,rfl⟩
 ·exact .inr ⟨_,_,_,rfl⟩
theorem qQ{g:Goroutine}{w:World}{es:Array Event}:qP (.go g w es):=.inl ⟨_,_,_,rfl⟩
theorem zh{o:Outcome}{w:World}{es:Array Event}:qP (.ended o w es):=.inr ⟨_,_,_,rfl⟩
section
variable {K:Cfg} {P' P:Program} {R:Nat->Nat->Prop} {Sp:FuncId->Prop} {c g:Nat->Bool} {bs:Bs}
theorem Zq{w w':World}{a:Frame}{k:List Frame}{s s':Sem Next}{n:Nat}(hn:n=(s.run P' w).w.drawn)(hw:WR (K.at n) R w w')(h:jI (K.at n) P' P R s s' (fun R1 x y=>NextR (K.at n) R1 x y)):qP (stepG.apply P' true a k none s w):=by
 subst hn;have kh:=fun x y e=>((h w w' hw).2.1 x y e);have kv:=fun x y e=>((h w w' hw).1 x y e);unfold stepG.apply;simp only[Sem.runT_eq,if_true];refine qP.after ?_
 cases e:s.run P' w with
 | halt x y =>
   have kh:=(kh x y e (by rw[e];exact ql)).2
   cases x with
   | panic v=>exact qQ
   | stuck m=>exact zh
   | unsupported q =>
     cases q<;>first
      | exact zh
      | (simp[xM]at kh;done)
   | _=>simp[xM]at kh
 | ok n w2 =>
   obtain⟨R1,b,w1',e1,_,_,_,hq,_⟩:=kv n w2 e (by rw[e];rfl);cases hq<;>exact qQ
theorem qdh{fn:FuncId}{ts:Array Value}{td:List Item}{ds:List Deferred}{l:Nat}{k k':List Frame}{w:World}(hk:KR K P' P bs R (some l) k k'){j:Option Code}{m:Bool}{s:String}{es:Array Event} :
 qP (GStep.after es (match (Instr.endRound l j).run P' w with
     | .ok v w=>doReturn P' m { fn,tmps:=ts,todo:=td,defers:=ds,mode:=.run,kind:=.normal,roundOf:=some l } k none v w
     | .halt _ w=>.ended (.stuck "range over a function: no such loop" s) w)):=by
 refine qP.after ?_
 cases e:(Instr.endRound l j).run P' w with
 | halt x y=>exact zh
 | ok v wa =>
   cases hk with
   | base h=>cases h
   | over hk=>cases hk<;>exact qQ
theorem qer(Z:Cov K P' P c g Sp){w w':World}(hw:W0 K R w w'){a a':Frame}{k k':List Frame}(ha:FR K P' P R a a')(hk:KR K P' P bs R a.roundOf k k')(hm:a.mode=.run)(hg:∀n,g n=true->R n n){m:Bool}(hT:∀i q,w'.tape (w'.drawn+i) q=w.tape (w.drawn+i) q) :
 qP (stepG.exec P' m true a k none w):=by
 have hwn:∀n,WR (K.at n) R w w':=fun n=>hw.wr n fun i q _=>hT i q;obtain⟨fn,ts,td,ds,mode,kind,ro⟩:=a;obtain⟨fn',ts',td',ds',mode',kind',ro'⟩:=a';have ha':=ha;obtain⟨h1,h2,h3,h4,h5,h6,h7,h8,h9⟩:=ha;simp only at h1 h2 h3 h4 h5 h6 h7 h8 h9 hk hm;subst h1 hm h7 h8;have h6:mode'=.run:=by rcases h6 with⟨_,h⟩|⟨h,_⟩;exact h;cases h
 subst h6;have dc:∀{x:Code},K.D fn' x->zQ P c g x=true:=fun h=>((Z.hD _ _).1 h).2;have cd:∀{x:Code},zQ P c g x=true->K.D fn' x:=fun h=>(Z.hD _ _).2 ⟨h2,h⟩;have ro9:∀{R1:Nat->Nat->Prop},(∀b c,R b c->R1 b c)->(ro=none/\ro'=none)\/∃l l',ro=some l/\ro'=some l'/\R1 l l':=fun h=>h9.imp (fun x=>x) fun⟨l,l',p,q,r⟩=>⟨l,l',p,q,h _ _ r⟩;unfold stepG.exec
 have lv:∀(j:Option Code) {es:Array Event} {s:String} {td:List Item},ro.isSome->∀l,ro=some l->qP (GStep.after es (match (Instr.endRound l j).run P' w with
       | .ok v w=>doReturn P' m { fn:=fn',tmps:=ts,todo:=td,defers:=ds,mode:=.run,kind:=.normal,roundOf:=some l } k none v w
       | .halt _ w=>.ended (.stuck "range over a function: no such loop" s) w)):=fun j es s td _ l e=>by
  subst e;exact qdh hk
 cases h4 with
 | nil =>
   cases ro with
   | none=>exact qQ
   | some l =>
     simp only[Sem.runT_eq];exact lv none rfl l rfl
 | @cons _ _ kk kk' hi hj =>
   cases hi with
   | inBlock id=>exact qQ
   | inLoop b hb=>exact qQ
   | inScope b=>exact qQ
   | inRange hl=>exact zh
   | beginRound =>
     refine Zq (P:=P) (K:=K) rfl (hwn _) (s':=do ro'.elim (Go.stuck "beginRound: no round") Instr.beginRound;Pure.pure .skip) ?_;rcases h9 with⟨rfl,rfl⟩|⟨l,l',rfl,rfl,hl⟩
     ·exact qh.l qh.halted
     ·exact(qh.beginRound hl).u.l
   | @endRange l l' hl =>
     simp only[Sem.runT_eq];refine qP.after ?_
     cases e:(Instr.endLoop l).run P' w with
     | halt x y=>cases x<;>first|exact zh|exact qQ
     | ok v wa=>exact qQ
   | inRegion id ops t hr =>
     cases t with
     | nil=>exact qQ
     | cons i rest =>
       simp only;by_cases hwt:((ops[i]?).map (Region.wanted · (yielded ops ts))).getD false=true
       ·rw[if_pos hwt]
        cases ho:ops[i]? with
        | none=>rw[ho]at hwt;simp at hwt
        | some o =>
          have hop:opB P c g o.op=true:=by
           have:=dc hr;simp only[zQ,Array.all_eq_true']at this;exact this o (Array.mem_of_getElem? ho)
          have hnd:∀cl,o.op≠.defer cl:=fun cl e=>(by rw[e]at hop;simp[opB]at hop);unfold stepG.oper;simp only[Frame.oper?,ho];split
          ·rename_i _ _ e;exact absurd e (hnd _)
          ·exact(fun n hn=>Zq (P:=P) (K:=K) (n:=n) hn (hwn n) (qh.execOp (K:=K.at n) (P':=P') (P:=P) (R:=R) (Z.at n).toProgs Z.hc o hop (fun hR x hxo=>ha'.eval Z.hc hg hR x hxo) (fun v=>rfl))) _ rfl
       ·rw[if_neg hwt];exact qQ
   | code x hx =>
     have hc:=dc hx
     cases x with
     | skip=>exact qQ
     | label n=>exact qQ
     | ret =>
       cases ro with
       | none=>exact qQ
       | some l =>
         simp only[Sem.runT_eq];exact lv (some .ret) rfl l rfl
     | exit id =>
       simp only
       cases e:Go.exitTo id kk with
       | some j=>exact qQ
       | none =>
         cases ro with
         | none=>exact zh
         | some l =>
           simp only[Sem.runT_eq,Option.elim];exact lv (some (.exit id)) rfl l rfl
     | seq x y=>exact qQ
     | cond o x y =>
       simp only;generalize Frame.eval { fn:=fn',tmps:=ts,todo:=_,defers:=ds,mode:=.run,kind:=.normal,roundOf:=ro } o=v
       cases v<;>first
        | exact qQ
        | exact zh
     | block id b=>exact qQ
     | loop b=>exact qQ
     | scope b=>exact qQ
     | region id ops draw =>
       cases draw with
       | false=>exact qQ
       | true =>
         simp only[Bool.not_true,Bool.false_eq_true,if_false]
         cases e:(choose (.order fn' id)).run P' w with
         | halt x y=>exact zh
         | ok t wa=>exact qQ
     | rangeFunc f ps x y =>
       simp only[zQ,Bool.and_eq_true]at hc;simp only[Sem.runT_eq];refine qP.after ?_
       cases e:(Instr.enterLoop fn' ts ps x y ro).run P' w with
       | halt x y=>exact zh
       | ok lm wa =>
         obtain⟨l,mark⟩:=lm;dsimp only;have hEL:=fun n=>qh.enterLoop (K:=K.at n) (P':=P') (P:=P) h3 ps (cd hc.1.2) (cd hc.2) h9
         obtain⟨n,hn⟩:∃n,n=(Sem.run P' (do
          let d <-resolve (Frame.eval { fn:=fn',tmps:=ts,todo:=.inRangeFunc l::kk,defers:=mark++ds,mode:=.run,kind:=.normal,roundOf:=ro }) { callee:=.value f,args:=#[.const (.func (.yield l) #[] #[])],argTypes:=#[] } 0
          invoke d.target d.args) wa).w.drawn:=⟨_,rfl⟩
         obtain⟨R1,lm',wa',e1,e2,e3,e4,⟨e5,e5'⟩,e6⟩:=(hEL n w w' (hwn n)).1 _ _ e (hn▸zH _ _ _)
         refine Zq (P:=P) (K:=K) hn e2 (s':=do
          let d <-resolve (Frame.eval { fn:=fn',tmps:=ts',todo:=.inRangeFunc lm'.1::kk',defers:=lm'.2++ds',mode:=.run,kind:=.normal,roundOf:=ro' }) { callee:=.value f,args:=#[.const (.func (.yield lm'.1) #[] #[])],argTypes:=#[] } 0
          invoke d.target d.args) ?_
         refine qh.l (qh.invokeValue (Z.at n).toProgs ((ha'.mono e3.le).eval Z.hc (fun n h=>e3.le _ _ (hg n h)) (fun _ _ h=>h) f hc.1.1) ?_);simp only[List.map_toArray,List.map_cons,List.map_nil,Frame.eval];exact AR.one (.yld e5)
     | _=>simp[zQ]at hc
theorem qge(Z:Cov K P' P c g Sp){w w':World}(hw:W0 K R w w')(hg:∀n,g n=true->R n n){q q':Goroutine}(hq:GR K P' P bs R q q')(hT:∀i x,w'.tape (w'.drawn+i) x=w.tape (w.drawn+i) x){m:Bool}:qP (stepG P' m q w):=by
 cases hq with
 | @mk a a' k k' ha hk =>
   have ha0:=ha;obtain⟨fn,ts,td,ds,mode,kind,ro⟩:=a;obtain⟨fn',ts',td',ds',mode',kind',ro'⟩:=a';rcases ha.mode with⟨h,h'⟩|⟨h,h'⟩
   ·simp only at h;subst h;exact qer Z hw ha hk rfl hg hT
   ·obtain⟨h1,h2,h3,h4,h5,h6,h7,h8,h9⟩:=ha;simp only at h h1 h2 h3 h4 h5 h6 h7 h8 h9 hk;subst h h7;show qP (unwind P' m _ k none w);unfold unwind
    cases h5 with
    | cons hd1 hds =>
      cases hd1 with
      | @collected r r' hr =>
        simp only[Sem.runT_eq];refine qP.after ?_
        cases e:(Instr.takeDeferred r).run P' w with
        | halt x y=>exact zh
        | ok v wa=>exact qQ
    | nil =>
      obtain⟨F,f1,f2,_⟩:=h2;simp only[f1,Sem.runT_eq];refine qP.after ?_
      cases e:(Go.results F ts).run P' w with
      | halt x y=>cases x<;>exact zh
      | ok v wa =>
        cases hk with
        | base _ =>
          have hb:=bs.bad;generalize bs.src=l at hb;cases hb<;>exact qQ
        | over hk =>
          cases hk with
          | one _ _=>exact qQ
          | cons _ _=>exact qQ
theorem bad_only{P:Program}{q:Goroutine}{w:World}(h:Bad q):qP (stepG P true q w):=by
 cases h with
 | @bottom a ch hm hd =>
   obtain⟨fn,tmps,todo,defers,mode,kind,ro⟩:=a;simp only at hm hd;subst hm hd;have:∃o w1 es,stepG P true { frame:={ fn:=fn,tmps:=tmps,todo:=todo,defers:=c0.defers,mode:=.panicking ch,kind:=kind,roundOf:=ro },callers:=[],status:=.running,dying:=none } w=.ended o w1 es:=⟨_,_,_,rfl⟩;exact .inr this
 | @up a k ch hm hd hk =>
   obtain⟨fn,tmps,todo,defers,mode,kind,ro⟩:=a;simp only at hm hd;subst hm;show qP (unwind P true _ k none w);unfold unwind
   cases defers with
   | cons d ds =>
     obtain⟨r,rfl⟩:=hd d (by simp);simp only[Sem.runT_eq];refine qP.after ?_
     cases e:(Instr.takeDeferred r).run P w with
     | halt x y=>exact zh
     | ok v wa=>exact qQ
   | nil =>
     simp only;split
     ·exact zh
     ·cases hk<;>exact qQ
theorem YG{P:Program}{v:Value}{w:World}:∃o w1 es,stepG P true { frame:=c0.finish v,callers:=[],status:=.running,dying:=none } w=.ended o w1 es:=⟨_,_,_,rfl⟩
end
def Qz(P:Program)(f:FuncId)(args:Array Value)(cs:List Frame):Goroutine:={ frame:=Frame.enter P f args .normal,callers:=cs,status:=.running,dying:=none }
def FinP(P':Program)(Post:Value->World->Prop)(q:Goroutine)(w:World):Prop :=
 ∃v fn,P'.funcs[q.frame.fn]? = some fn/\(∀t,(Go.results fn q.frame.tmps).run P' (w.tp t)=.ok v (w.tp t))/\∀t,Post v (w.tp t)
theorem FinP.tp{P':Program}{Post:Value->World->Prop}{q:Goroutine}{w:World}(t:Nat->Question->Nat)(h:FinP P' Post q w):FinP P' Post q (w.tp t):=h
theorem Yt{fr fr':Frame}{cs cs':List Frame}{w w':World}(h:lone fr cs w=lone fr' cs' w'):fr=fr'/\cs=cs'/\w=w':=by
 unfold lone at h;simp only[Machine.mk.injEq,Array.mk.injEq,List.cons.injEq,Goroutine.mk.injEq,and_true]at h;obtain⟨h1,h2,h3⟩:=h;exact⟨h2,h3,h1⟩
section
variable {K:Cfg} {P':Program} {c g:Nat->Bool}
theorem JE{P:Program}{fr fr':Frame}{cs cs':List Frame}{w w':World}{es:Array Event}(h:stepG P true { frame:=fr,callers:=cs,status:=.running,dying:=none } w=.go { frame:=fr',callers:=cs',status:=.running,dying:=none } w' es) :
 step P (lone fr cs w)=.next (lone fr' cs' w'):=step_lone_go (by rw[h];rfl)
theorem Qr{P:Program}{fr:Frame}{cs:List Frame}{w w':World}{o:Outcome}{es:Array Event}(h:stepG P true { frame:=fr,callers:=cs,status:=.running,dying:=none } w=.ended o w' es) :
 step P (lone fr cs w)=.ended o w':=step_lone_ended (by rw[h];rfl)
theorem JB(Z:Cov K P' P' c g (fun _=>False)){Post:Value->World->Prop}(hP:∀v w t,Post v w->Post v (w.tp t)){fr':Frame}{w':World}{v:Value}{fn:Func}
 (h1:fr'.mode=.returning) (h2:fr'.defers=[]) (h3:P'.funcs[fr'.fn]? = some fn) (h4:(Go.results fn fr'.tmps).run P' w'=.ok v w') (h5:Post v w') :
 ∀(n:Nat) (fr:Frame) (cs:List Frame) (w:World),(Ym K P' g { frame:=fr,callers:=cs,status:=.running,dying:=none } w\/(Bad { frame:=fr,callers:=cs,status:=.running,dying:=none }/\yU w)) ->
  runN P' n (lone fr cs w)=.next (lone fr' [c0] w')->Reach P' true (FinP P' Post) { frame:=fr,callers:=cs,status:=.running,dying:=none } w:=by
 intro n
 induction n with
 | zero =>
   intro fr cs w hI hr;simp only[runN,Stepped.next.injEq]at hr;obtain⟨rfl,rfl,rfl⟩:=Yt hr;rcases hI with hI|⟨hb,_⟩
   ·refine .fin ⟨h1,h2,rfl⟩ ⟨v,fn,h3,fun t=>?_,fun t=>hP _ _ _ h5⟩;obtain⟨R,hg,hw,_,_⟩:=hI
    cases hg with
    | mk ha _ =>
      have hw':WR (K.at w.drawn) R w w:=hw.wr _ fun _ _ _=>rfl;have:=(qh.results (K:=K.at w.drawn) (P':=P') (P:=P') Z.toSame fn ha.tmps w w hw').2.2 (by rw[h4];exact ql) t (by rw[h4];exact fun i q a b=>absurd (Nat.lt_of_le_of_lt a b) (Nat.lt_irrefl _));rw[this,h4];rfl
   ·exact absurd ⟨h1,h2,rfl⟩ hb.notLeaves
 | succ n ih =>
   intro fr cs w hI hr;simp only[runN]at hr
   have ended:∀{o w1 es},stepG P' true { frame:=fr,callers:=cs,status:=.running,dying:=none } w=.ended o w1 es->False:=fun h=>by
    rw[Qr h]at hr;cases hr
   have on:∀{g1:Goroutine} {w1:World} {es},stepG P' true { frame:=fr,callers:=cs,status:=.running,dying:=none } w=.go g1 w1 es->(Ym K P' g g1 w1\/(Bad g1/\yU w1))->Reach P' true (FinP P' Post) g1 w1:=fun h hI1=>by
    rename_i g1 w1 es
    obtain⟨f1,k1,rfl⟩:∃f1 k1,g1={ frame:=f1,callers:=k1,status:=.running,dying:=none }:=by
     rcases hI1 with⟨R,hg,_⟩|⟨hb,_⟩
     ·cases hg;exact⟨_,_,rfl⟩
     ·cases hb<;>exact⟨_,_,rfl⟩
    rw[JE h]at hr;exact ih f1 k1 w1 hI1 hr
   rcases hI with hI|⟨hb,hn⟩
   ·by_cases hl:Leaves { frame:=fr,callers:=cs,status:=.running,dying:=none }
    ·exfalso;obtain⟨l1,l2,l3⟩:=hl;simp only at l1 l2 l3;subst l3;obtain⟨R,hg,_⟩:=hI
     cases hg with
     | mk ha _ =>
       obtain⟨F,f1,_,_⟩:=ha.std;have hk:=ha.kind;obtain⟨fn0,ts,td,ds,mode,kind,ro⟩:=fr;simp only at l1 l2 hk f1;subst l1 l2 hk
       cases e:(Go.results F ts).run P' w with
       | halt x y =>
         have hs:∃o w1 es,stepG P' true { frame:={ fn:=fn0,tmps:=ts,todo:=td,defers:=[],mode:=.returning,kind:=.normal,roundOf:=ro },callers:=[c0],status:=.running,dying:=none } w=.ended o w1 es:=by
          unfold stepG;dsimp only;unfold unwind;simp only[f1,Sem.runT_eq,e];cases x<;>exact⟨_,_,_,rfl⟩
         obtain⟨_,_,_,hs⟩:=hs;exact ended hs
       | ok v1 wa =>
         have hs:∃es,stepG P' true { frame:={ fn:=fn0,tmps:=ts,todo:=td,defers:=[],mode:=.returning,kind:=.normal,roundOf:=ro },callers:=[c0],status:=.running,dying:=none } w=.go { frame:=c0.finish v1,callers:=[],status:=.running,dying:=none } wa es:=by
          unfold stepG;dsimp only;unfold unwind;simp only[f1,Sem.runT_eq,e];exact⟨_,rfl⟩
         obtain⟨_,hs2⟩:=hs;rw[JE hs2]at hr
         cases n with
         | zero =>
           simp only[runN,Stepped.next.injEq]at hr;have:=(Yt hr).2.1;cases this
         | succ n =>
           simp only[runN]at hr;obtain⟨o,w1,es,hb⟩:=YG (P:=P') (v:=v1) (w:=wa);rw[Qr hb]at hr;cases hr
    ·obtain⟨R,hg,hw,hn,hR⟩:=id hI;rcases qge Z hw hR hg (fun _ _=>rfl) (m:=true)with⟨g1,w1,es,hs⟩|⟨o,w1,es,hs⟩
     ·refine .step hl hs (on hs ?_);by_cases hb:Bad g1
      ·have hw':WR (K.at w1.drawn) R w w:=hw.wr _ fun _ _ _=>rfl;exact .inr ⟨hb,(jW (m':=true) (Z.at _) hn hw' hR (hg.at _) hl hs rfl).1⟩
      ·exact .inl ((hI.turn Z hl w.tape hs).2 hb)
     ·exact(ended hs).elim
   ·rcases bad_only (P:=P') (w:=w) hb with⟨g1,w1,es,hs⟩|⟨o,w1,es,hs⟩
    ·exact .step hb.notLeaves hs (on hs (.inr (hb.step hn hs)))
    ·exact(ended hs).elim
theorem LT.of_calls(Z:Cov K P' P' c g (fun _=>False)){f:FuncId}{args:Array Value}{w:World}{Post:Value->World->Prop}(hP:∀v w t,Post v w->Post v (w.tp t))
 (hS:Ym K P' g (Qz P' f args [c0]) w) (hC:∀t,Calls P' f args (w.tp t) fun e w'=>∃v,e=.returned v/\Post v w'):LT P' true (FinP P' Post) (Qz P' f args [c0]) w:=by
 refine LT.of_reach Z (fun q w t h=>h.tp t) hS fun t=>?_;obtain⟨e,w',fr,⟨v,rfl,hp⟩,⟨n,hn⟩,_,hl⟩:=hC t [c0];obtain⟨l1,l2,_,fn,l3,l4⟩:=hl;obtain⟨R,hg,hw,hn0,hR⟩:=hS;exact JB Z hP l1 l2 l3 l4 hp n _ _ _ (.inl ⟨R,hg,⟨hw.fn,hw.inj,hw.obj,hw.fz,hw.glob,hw.big,hw.big'⟩,hn0,hR⟩) hn
end
end Go.Sim
section
namespace Go.Sim
open Go Go.Instr Go.Conc
open Go.ConcN (sumTo upd sumTo_upd upd_ne upd_same)
section
variable (P':Program)
inductive Desc:Goroutine->World->Goroutine->World->Prop
 | refl (q:Goroutine) (w:World):Desc q w q w
 | step {q q1 q2:Goroutine} {w w1 w2:World} (t:Nat->Question->Nat) {es:Array Event}:¬Leaves q->stepG P' true q (w.tp t)=.go q1 w1 es->Desc q1 w1 q2 w2->Desc q w q2 w2
def yD(q:Goroutine)(w:World)(q2:Goroutine)(w2:World):Prop:=∃t q1 w1 es,¬Leaves q/\stepG P' true q (w.tp t)=.go q1 w1 es/\Desc P' q1 w1 q2 w2
end
theorem Desc.trans{P':Program}{q q1 q2:Goroutine}{w w1 w2:World}(h:Desc P' q w q1 w1)(k:Desc P' q1 w1 q2 w2):Desc P' q w q2 w2:=by
 induction h with
 | refl=>exact k
 | step t hl hs _ ih=>exact .step t hl hs (ih k)
theorem yD.desc{P':Program}{q q1:Goroutine}{w w1:World}(h:yD P' q w q1 w1):Desc P' q w q1 w1:=let ⟨t,_,_,_,hl,hs,k⟩:=h;.step t hl hs k
theorem Desc.below_or{P':Program}{q q1 q2:Goroutine}{w w1 w2:World}(h:yD P' q w q1 w1)(k:Desc P' q1 w1 q2 w2):yD P' q w q2 w2:=let ⟨t,a,b,c,hl,hs,m⟩:=h;⟨t,a,b,c,hl,hs,m.trans k⟩
variable {P':Program} {Fin:Goroutine->World->Prop}
theorem LT.child{q q1:Goroutine}{w w1:World}{t:Nat->Question->Nat}{es:Array Event}(h:LT P' true Fin q w)(hl:¬Leaves q)(hs:stepG P' true q (w.tp t)=.go q1 w1 es):¬Bad q1/\LT P' true Fin q1 w1:=by
 cases h with
 | fin h _=>exact absurd h hl
 | step _ nx h1 h2 =>
   obtain⟨es',e,hb⟩:=h1 t;rw[hs]at e;simp only[GStep.go.injEq]at e;obtain⟨e1,e2,_⟩:=e;exact⟨e1▸hb,e1▸e2▸h2 t⟩
theorem LT.desc{q q2:Goroutine}{w w2:World}(h:LT P' true Fin q w)(d:Desc P' q w q2 w2):LT P' true Fin q2 w2:=by
 induction d with
 | refl=>exact h
 | step t hl hs _ ih=>exact ih (h.child hl hs).2
theorem LT.below1{q q2:Goroutine}{w w2:World}(h:LT P' true Fin q w)(d:yD P' q w q2 w2):LT P' true Fin q2 w2:=by
 obtain⟨t,q1,w1,es,hl,hs,d⟩:=d;exact(h.child hl hs).2.desc d
theorem LT.strong{M:Goroutine->World->Prop}(hM:∀q w,LT P' true Fin q w->(∀q1 w1,yD P' q w q1 w1->M q1 w1)->M q w){q:Goroutine}{w:World}(h:LT P' true Fin q w):M q w:=by
 have key:∀q2 w2,Desc P' q w q2 w2->M q2 w2:=by
  induction h with
  | @fin q w hl hf =>
    intro q2 w2 d
    cases d with
    | refl=>exact hM _ _ (.fin hl hf) fun q1 w1 ⟨_,_,_,_,h,_⟩=>absurd hl h
    | step _ h _ _=>exact absurd hl h
  | @step q w hl nx h1 h2 ih =>
    have kid:∀{t q1 w1 es},stepG P' true q (w.tp t)=.go q1 w1 es->∀q2 w2,Desc P' q1 w1 q2 w2->M q2 w2:=by
     intro t q1 w1 es hs q2 w2 d;obtain⟨es',e,_⟩:=h1 t;rw[hs]at e;simp only[GStep.go.injEq]at e;obtain⟨e1,e2,_⟩:=e;subst e1 e2;exact ih t q2 w2 d
    intro q2 w2 d
    cases d with
    | refl=>exact hM _ _ (.step hl nx h1 h2) fun q1 w1 ⟨t,q',w',es,_,hs,d⟩=>kid hs q1 w1 d
    | step t h hs d=>exact kid hs q2 w2 d
 exact key q w (.refl q w)
def zR(S:Nat->Prop):Loc->Prop
 | .cell a=>S a.block
 | .obj r=>S r
 | _=>False
theorem qcd{K:Cfg}{R:Nat->Nat->Prop}{S:Nat->Prop}{B:Nat}{e:Event}(h:EvR K R e)(hS:∀b c,R b c->¬S c)(hB:∀b c,R b c->c<B):EvL (zR S) B e:=by
 cases h with
 | cell a wr b hr _=>exact evL_cell a wr (hS _ _ hr) (hB _ _ hr)
 | obj r wr b hr _ =>
   have e1:MemAct.ofEvent ⟨.obj r,wr,false⟩=.access ⟨.obj r,wr,false⟩:=(by cases wr<;>rfl);refine⟨fun x hx hs=>?_,by simp,by simp,?_⟩
   ·simp only[e1,MemAct.touch?,Option.some.injEq]at hx;subst hx;exact absurd hs (hS _ _ hr)
   ·rw[e1];exact hB _ _ hr
 | room=>exact⟨fun x hx=>by simp[MemAct.ofEvent,MemAct.touch?]at hx,by simp,by simp,trivial⟩
structure Ext0 (K:Cfg) (R R1:Nat->Nat->Prop) (w w' w1 w1':World):Prop where
 le:∀b c,R b c->R1 b c
 new:∀b c,R1 b c->R b c\/(w.heap.size<=b/\w'.heap.size<=c)
 size:w.heap.size<=w1.heap.size
 size':w'.heap.size<=w1'.heap.size
 stay:∀c,c<w'.heap.size->(∀b,R b c->K.Fz b)->w1'.heap[c]? = w'.heap[c]?
 tp':w1'.tape=w'.tape
 os':w1'.os=w'.os
 out':w1'.output=w'.output
 held:∀b,K.Fz b->b<w.heap.size->w1.heap[b]? = w.heap[b]?
theorem Ext0.refl{K:Cfg}{R:Nat->Nat->Prop}(w w':World):Ext0 K R R w w' w w':=⟨fun _ _ h=>h,fun _ _ h=>.inl h,ql,ql,fun _ _ _=>rfl,rfl,rfl,rfl,fun _ _ _=>rfl⟩
theorem Ext0.trans{K:Cfg}{R R1 R2:Nat->Nat->Prop}{w w' w1 w1' w2 w2':World}(h:Ext0 K R R1 w w' w1 w1')(k:Ext0 K R1 R2 w1 w1' w2 w2'):Ext0 K R R2 w w' w2 w2':=by
 refine⟨fun b c x=>k.le _ _ (h.le _ _ x),fun b c x=>?_,Nat.le_trans h.size k.size,Nat.le_trans h.size' k.size',fun c hc hb=>?_,k.tp'.trans h.tp',k.os'.trans h.os',k.out'.trans h.out',fun b hb hlt=>(k.held b hb (Nat.lt_of_lt_of_le hlt h.size)).trans (h.held b hb hlt)⟩
 ·rcases k.new b c x with y|⟨y1,y2⟩
  ·exact h.new b c y
  ·exact .inr ⟨Nat.le_trans h.size y1,Nat.le_trans h.size' y2⟩
 ·rw[k.stay c (Nat.lt_of_lt_of_le hc h.size') (fun b hr=>?_),h.stay c hc hb];rcases h.new b c hr with y|⟨_,y⟩
  ·exact hb b y
  ·omega
theorem Ext.e0{K:Cfg}{R R1:Nat->Nat->Prop}{w w' w1 w1':World}{t:Nat->Question->Nat}{d:Nat}(h:Ext K R R1 (w.tp t) (w'.at d) w1 w1'):Ext0 K R R1 w w' w1 w1':=⟨h.le,h.new,h.size,h.size',h.stay,h.tp',h.os',h.out',h.held⟩
structure MS (K Ks:Cfg) (P' P:Program) (g:Nat->Bool) (S:Nat->Prop) (R:Nat->Nat->Prop) (q:Goroutine) (w w':World):Prop where
 w0:W0 K R w w'
 nd:yU w
 self:Ym Ks P' g q w
 glob:∀n,g n=true->R n n
 shun:∀b c,R b c->¬S c
 low:∀c,S c->c<w'.heap.size
 keep:∀n,K.Fz n->R n n/\w.heap[n]? = K.bs[n]?/\w'.heap[n]? = K.bt[n]?
theorem Yr{K:Cfg}{R R1:Nat->Nat->Prop}{w w' w1 w1':World}(h:∀n,K.Fz n->R n n/\w.heap[n]? = K.bs[n]?/\w'.heap[n]? = K.bt[n]?)(h0:W0 K R w w')(x:Ext0 K R R1 w w' w1 w1'):∀n,K.Fz n->R1 n n/\w1.heap[n]? = K.bs[n]?/\w1'.heap[n]? = K.bt[n]? := fun n hn=>by
 obtain⟨h1,h2,h3⟩:=h n hn;obtain⟨_,_,e1,e2,_⟩:=h0.obj n n h1;exact⟨x.le _ _ h1,(x.held n hn (qy e1).1).trans h2,(x.stay n (qy e2).1 fun b hb=>(h0.inj b n n hb h1)▸hn).trans h3⟩
structure RM (P:Program) (S:Nat->Prop) (gs:Array Goroutine) (a:Goroutine) (w':World) (t:Trace):Prop where
 here:gs[0]? = some a
 old:∃qq,Leavers P t gs qq
 past:Past (zR S) w'.heap.size t
 nums:∀(i:Nat) (op:MemOp),t[i]? = some op->op.g<gs.size
theorem zu{t u:Trace}{N N':Nat}(h:∀(i:Nat) (op:MemOp),t[i]? = some op->op.g<N)(hN:N<=N')(hu:∀op∈u,op.g<N'):∀(i:Nat) (op:MemOp),(t++u)[i]? = some op->op.g<N':=fun i op hi=>by
 rcases getElem?_append_cases hi with⟨_,h1⟩|⟨_,h1⟩
 ·exact Nat.lt_of_lt_of_le (h i op h1) hN
 ·exact hu op h1
section
variable {P:Program} {K Ks:Cfg} {c g:Nat->Bool} {Sp:FuncId->Prop} {bs:Bs}
theorem zl{P:Program}{m m1:Machine}{t t1:Trace}:∀{N M:Nat} {r:Stepped×Trace},runNT P N m t=(.next m1,t1)->runNT P M m1 t1=r->runNT P (N+M) m t=r:=by
 intro N
 induction N generalizing m t with
 | zero =>
   intro M r h1 h2;simp only[runNT,Prod.mk.injEq,Stepped.next.injEq]at h1;obtain⟨rfl,rfl⟩:=h1;rw[Nat.zero_add];exact h2
 | succ N ih =>
   intro M r h1 h2;rw[Nat.succ_add];simp only[runNT]at h1⊢
   cases e:stepT P m with
   | mk s ops =>
     rw[e]at h1
     cases s with
     | next m2=>exact ih h1 h2
     | ended o w=>simp at h1
def Main(K Ks:Cfg)(P' P:Program)(g:Nat->Bool)(Sp:FuncId->Prop)(Fin:Goroutine->World->Prop)(q:Goroutine)(w:World):Prop :=
 ∀(bs:Bs) (S:Nat->Prop) (R:Nat->Nat->Prop) (gs:Array Goroutine) (a:Goroutine) (w':World) (sl:Option (Nat×Nat)) (t:Trace),(GR K P' P bs R q a\/ji K P' P Sp bs R q a)->MS K Ks P' P g S R q w w'->RM P S gs a w' t ->
  ∃(N:Nat) (S1:Nat->Prop) (R1:Nat->Nat->Prop) (q1:Goroutine) (w1:World) (gs1:Array Goroutine) (a1:Goroutine) (w1':World) (sl1:Option (Nat×Nat)) (t1:Trace),
   runNT P N (crowd gs w' sl) t=(.next (crowd gs1 w1' sl1),t1)/\yE bs.src q1/\LT P' true Fin q1 w1/\Desc P' q w q1 w1/\GR K P' P bs R1 q1 a1/\MS K Ks P' P g S1 R1 q1 w1 w1'/\RM P S1 gs1 a1 w1' t1/\Ext0 K R R1 w w' w1 w1'/\∀c,S1 c->S c\/w'.heap.size<=c
def qbS(K Ks:Cfg)(P' P:Program)(g:Nat->Bool)(Sp:FuncId->Prop)(Fin:Goroutine->World->Prop):Prop :=
 ∀(bs:Bs) (S:Nat->Prop) (R:Nat->Nat->Prop) (q:Goroutine) (w:World) (gs:Array Goroutine) (a:Goroutine) (w':World) (sl:Option (Nat×Nat)) (t:Trace),ji K P' P Sp bs R q a->MS K Ks P' P g S R q w w'->RM P S gs a w' t->LT P' true Fin q w ->
  (∀q1 w1,yD P' q w q1 w1->Main K Ks P' P g Sp Fin q1 w1) ->
  ∃(N:Nat) (S1:Nat->Prop) (R1:Nat->Nat->Prop) (q1:Goroutine) (w1:World) (gs1:Array Goroutine) (a1:Goroutine) (w1':World) (sl1:Option (Nat×Nat)) (t1:Trace),
   runNT P N (crowd gs w' sl) t=(.next (crowd gs1 w1' sl1),t1)/\yD P' q w q1 w1/\GR K P' P bs R1 q1 a1/\MS K Ks P' P g S1 R1 q1 w1 w1'/\RM P S1 gs1 a1 w1' t1/\Ext0 K R R1 w w' w1 w1'/\∀c,S1 c->S c\/w'.heap.size<=c
theorem FsR.longer{bs:Bs}{R:Nat->Nat->Prop}{k k':List Frame}(h:FsR K P' P bs R k k'):2<=k.length:=by
 have hb:1<=bs.src.length:=by
  have:=bs.bad;generalize bs.src=l at this;cases this<;>simp
 induction h with
 | one _ _=>simp;omega
 | cons _ _ ih=>simp;omega
theorem GR.not_leaves{bs:Bs}{R:Nat->Nat->Prop}{q a:Goroutine}(h:GR K P' P bs R q a)(hl:¬yE bs.src q):¬Leaves q:=by
 rintro⟨l1,l2,l3⟩
 cases h with
 | mk ha hk =>
   cases hk with
   | base _=>exact hl ⟨l1,l2,rfl⟩
   | over h =>
     have:=h.longer;simp only at l3;rw[l3]at this;simp at this
theorem main_all(Z:Cov K P' P c g Sp)(Zs:Cov Ks P' P' c g (fun _=>False))(hPh:qbS K Ks P' P g Sp Fin){q:Goroutine}{w:World}(hT:LT P' true Fin q w):Main K Ks P' P g Sp Fin q w:=by
 refine LT.strong (M:=fun q w=>Main K Ks P' P g Sp Fin q w) ?_ hT;intro q w hT ih bs S R gs a w' sl t hE hM hR
 have fromThere:∀{N:Nat} {S1:Nat->Prop} {R1:Nat->Nat->Prop} {q1:Goroutine} {w1:World} {gs1:Array Goroutine} {a1:Goroutine} {w1':World} {sl1:Option (Nat×Nat)} {t1:Trace},
  runNT P N (crowd gs w' sl) t=(.next (crowd gs1 w1' sl1),t1)->yD P' q w q1 w1->(GR K P' P bs R1 q1 a1\/ji K P' P Sp bs R1 q1 a1)->MS K Ks P' P g S1 R1 q1 w1 w1'->RM P S1 gs1 a1 w1' t1->Ext0 K R R1 w w' w1 w1'->(∀c,S1 c->S c\/w'.heap.size<=c) ->
  ∃(N:Nat) (S1:Nat->Prop) (R1:Nat->Nat->Prop) (q1:Goroutine) (w1:World) (gs1:Array Goroutine) (a1:Goroutine) (w1':World) (sl1:Option (Nat×Nat)) (t1:Trace),
  runNT P N (crowd gs w' sl) t=(.next (crowd gs1 w1' sl1),t1)/\yE bs.src q1/\LT P' true Fin q1 w1/\Desc P' q w q1 w1/\GR K P' P bs R1 q1 a1/\MS K Ks P' P g S1 R1 q1 w1 w1'/\RM P S1 gs1 a1 w1' t1/\Ext0 K R R1 w w' w1 w1'/\∀c,S1 c->S c\/w'.heap.size<=c:=by
  intro N S1 R1 q1 w1 gs1 a1 w1' sl1 t1 hrun hb hE1 hM1 hR1 hX hSS;obtain⟨N2,S2,R2,q2,w2,gs2,a2,w2',sl2,t2,h1,h2,h3,h3',h4,h5,h6,h7,h8⟩:=ih q1 w1 hb bs S1 R1 gs1 a1 w1' sl1 t1 hE1 hM1 hR1;exact⟨N+N2,S2,R2,q2,w2,gs2,a2,w2',sl2,t2,zl hrun h1,h2,h3,hb.desc.trans h3',h4,h5,h6,hX.trans h7,fun c hc=>(h8 c hc).elim (hSS c) fun h=>.inr (Nat.le_trans hX.size' h)⟩
 rcases hE with hG|hE
 ·by_cases hla:yE bs.src q
  ·exact⟨0,S,R,q,w,gs,a,w',sl,t,rfl,hla,hT,.refl _ _,hG,hM,hR,.refl _ _,fun _ h=>.inl h⟩
  ·have hl:¬Leaves q:=hG.not_leaves hla;obtain⟨h0,⟨qq,hL⟩,hP,hNm⟩:=hR
   have stepOut:∀(M:Nat) (gs:Array Goroutine) (w':World) (sl:Option (Nat×Nat)) (t:Trace) (qq:Nat->Nat),sumTo gs.size qq<=M->gs[0]? = some a->MS K Ks P' P g S R q w w'->Leavers P t gs qq->Past (zR S) w'.heap.size t->(∀(i:Nat) (op:MemOp),t[i]? = some op->op.g<gs.size) ->
    ∃(N:Nat) (R1:Nat->Nat->Prop) (q1:Goroutine) (w1:World) (gs1:Array Goroutine) (a1:Goroutine) (w1':World) (sl1:Option (Nat×Nat)) (t1:Trace),
     runNT P N (crowd gs w' sl) t=(.next (crowd gs1 w1' sl1),t1)/\yD P' q w q1 w1/\(GR K P' P bs R1 q1 a1\/ji K P' P Sp bs R1 q1 a1)/\MS K Ks P' P g S R1 q1 w1 w1'/\RM P S gs1 a1 w1' t1/\Ext0 K R R1 w w' w1 w1':=by
    intro M
    induction M using Nat.strongRecOn with
    | _ M ihM =>
    intro gs w' sl t qq hq h0 hM hL hP hNm;have hrun:a.status=.running:=by cases hG;rfl
    have haw:∀x∈gs,awake x:=by
     intro x hx;obtain⟨i,hi,rfl⟩:=Array.mem_iff_getElem.1 hx;rcases Nat.eq_zero_or_pos i with rfl|hpos
     ·have:gs[0]=a:=(by simpa[Array.getElem?_eq_getElem hi]using h0);rw[this];exact awake_of (.inl hrun)
     ·exact awake_of ((hL.old i _ hpos (Array.getElem?_eq_getElem hi)).status.elim .inl fun x=>.inr (.inr x))
    obtain⟨i,x,d,sl',hi,hx,hst⟩:=crowd_pick (P:=P) (w:=w') (sl:=sl) haw ⟨0,a,h0,hrun⟩;rcases Nat.eq_zero_or_pos i with rfl|hpos
    ·obtain rfl:x=a:=by rw[h0]at hi;exact(qz hi).symm
     let τ:Nat->Question->Nat:=fun n z=>w'.tape (d+(n-w.drawn)) z
     obtain⟨q1,w1,es,hs⟩:∃q1 w1 es,stepG P' true q (w.tp τ)=.go q1 w1 es:=by
      cases hT with
      | fin h _=>exact absurd h hl
      | step _ nx h1 _=>obtain⟨es,e,_⟩:=h1 τ;exact⟨_,_,es,e⟩
     obtain⟨hnb,hT1⟩:=hT.child hl hs
     have hwr:WR (K.at w1.drawn) R (w.tp τ) (w'.at d):=W0.wr (⟨hM.w0.fn,hM.w0.inj,hM.w0.obj,hM.w0.fz,hM.w0.glob,hM.w0.big,hM.w0.big'⟩:W0 K R (w.tp τ) (w'.at d)) _ fun j z _=>by
      show w'.tape (d+j) z=w'.tape (d+(w.drawn+j-w.drawn)) z;rw[Nat.add_sub_cancel_left]
     obtain⟨hn1,hst1⟩:=jW (m':=true) (Z.at _) (show yU (w.tp τ)from hM.nd) hwr hM.glob (hG.at _) hla hs rfl;rcases hst1 with hb|⟨R1,a1,w1',es',e,hg1,hw1,hx1,hv1⟩
     ·exact absurd hb hnb
     have hself:Ym Ks P' g q1 w1:=(hM.self.turn Zs hl τ hs).2 hnb;have hX:Ext0 K R R1 w w' w1 w1':=Ext.e0 hx1.un
     have hshun:∀b c,R1 b c->¬S c:=fun b c hr hc=>by
      rcases hX.new b c hr with h|⟨_,h⟩
      ·exact hM.shun b c h hc
      ·have:=hM.low c hc;omega
     have hrunT:=runT_crowd_go (P:=P) (sl:=sl') (i:=0) hi (show stepG P (0==0) x (w'.at d)=_ from e);have hlt:0<gs.size:=(qy h0).1
     have hlow:∀b c,R1 b c->c<w1'.heap.size:=fun b c hr=>by
      obtain⟨_,o',_,h2,_⟩:=hw1.obj b c hr;exact(qy h2).1
     have hone:runNT P (Nat.succ 0) (crowd gs w' sl) t=(.next (crowd ((gs.map (woken P x a1 w1')).setIfInBounds 0 a1) w1' sl'),t++MemOp.ofEvents 0 x.frame.fn x.frame.place es'):=by
      simp only[runNT,hst,hrunT]
     refine⟨Nat.succ 0,R1,q1,w1,_,a1,w1',sl',_,hone,⟨τ,q1,w1,es,hl,hs,.refl _ _⟩,hg1.imp (·.un) (·.un),⟨hw1.w0,hn1,hself,fun n hn=>hX.le _ _ (hM.glob n hn),hshun,fun c hc=>Nat.lt_of_lt_of_le (hM.low c hc) hX.size',Yr hM.keep hM.w0 hX⟩,⟨by simp[hlt],⟨qq,?_⟩,?_,zu hNm (by simp) fun op hop=>by obtain⟨e,_,rfl⟩:=Go.Conc.mem_ofEvents hop;simpa using hlt⟩,hX⟩
     ·exact⟨fun j y hj hy=>by
       have hne:0≠j:=(by omega);rw[qJ hne,Array.getElem?_map]at hy;obtain⟨z,hz,rfl⟩:=Option.map_eq_some_iff.1 hy;have hq:=hL.old j z hj hz;rw[woken_quitsD hq,Deaf_other t (by omega) _ (fun op hop=>by obtain⟨e,_,rfl⟩:=Go.Conc.mem_ofEvents hop;rfl)]
       exact hq,fun j hj=>by
       rw[Deaf_other t (g':=0) (by simp at hj;omega) _ (fun op hop=>by obtain⟨e,_,rfl⟩:=Go.Conc.mem_ofEvents hop;rfl)]
       exact hL.above j (by simpa using hj)⟩
     ·exact(hP.mono hX.size').own fun ev hev=>qcd (hv1 ev hev) hshun hlow
    ·
     have hq1:=hL.old i x hpos hi;have hi0:(i==0)=false:=(by simp;omega);have hlt:i<gs.size:=(qy hi).1
     cases hqi:qq i with
     | zero=>rw[hqi]at hq1;rw[hq1.1]at hx;cases hx
     | succ k =>
       rw[hqi]at hq1;rcases hq1 with⟨hf,_⟩|⟨_,g',es,hm,hstp,hq'⟩
       ·rw[hf]at hx;cases hx
       have hrunT:=runT_crowd_go (P:=P) (sl:=sl') (i:=i) hi (by rw[hi0];exact hstp (w'.at d));have hsz:((gs.map (woken P x g' (w'.at d))).setIfInBounds i g').size=gs.size:=by simp
       have hsum:sumTo gs.size (upd qq i k)+(k+1)=sumTo gs.size qq+k:=by
        have:=sumTo_upd qq k id hlt;simpa[hqi]using this
       obtain⟨N,R1,q1,w1,gs1,a1,w1',sl1,t1,r1,r2,r3,r4,r5,r6⟩:=ihM (sumTo gs.size (upd qq i k)) (by omega) ((gs.map (woken P x g' (w'.at d))).setIfInBounds i g') (w'.at d) sl' (t++MemOp.ofEvents i x.frame.fn x.frame.place es) (upd qq i k) (by rw[hsz];exact ql)
        (by
          have hne:i≠0:=(by omega);rw[qJ hne,Array.getElem?_map,h0]
          simp[woken_run hrun])
        ⟨⟨hM.w0.fn,hM.w0.inj,hM.w0.obj,hM.w0.fz,hM.w0.glob,hM.w0.big,hM.w0.big'⟩,hM.nd,hM.self,hM.glob,hM.shun,hM.low,hM.keep⟩
        ⟨fun j y hj hy=>by
          by_cases hji:i=j
          ·subst hji;rw[Array.getElem?_setIfInBounds_self_of_lt (by simpa using hlt)]at hy;obtain rfl:=qz hy;rw[upd_same,Deaf_own];exact hq'
          ·rw[qJ hji,Array.getElem?_map]at hy;obtain⟨z,hz,rfl⟩:=Option.map_eq_some_iff.1 hy;have hqj:=hL.old j z hj hz;rw[woken_quitsD hqj,upd_ne qq k (Ne.symm hji),Deaf_other t hji _ (fun op hop=>by obtain⟨e,_,rfl⟩:=Go.Conc.mem_ofEvents hop;rfl)]
           exact hqj,fun j hj=>by
          rw[Deaf_other t (g':=i) (by simp at hj;omega) _ (fun op hop=>by obtain⟨e,_,rfl⟩:=Go.Conc.mem_ofEvents hop;rfl)]
          exact hL.above j (by simpa using hj)⟩
        (hP.mute (by omega) hm) (zu hNm (by simp) fun op hop=>by obtain⟨e,_,rfl⟩:=Go.Conc.mem_ofEvents hop;simpa using hlt)
       exact⟨N+1,R1,q1,w1,gs1,a1,w1',sl1,t1,by simp only[runNT,hst,hrunT];exact r1,r2,r3,r4,r5,⟨r6.le,r6.new,r6.size,r6.size',r6.stay,r6.tp',r6.os',r6.out',r6.held⟩⟩
   obtain⟨N,R1,q1,w1,gs1,a1,w1',sl1,t1,r1,r2,r3,r4,r5,r6⟩:=stepOut _ gs w' sl t qq ql h0 hM hL hP hNm;exact fromThere r1 r2 r3 r4 r5 r6 fun _ h=>.inl h
 ·obtain⟨N,S1,R1,q1,w1,gs1,a1,w1',sl1,t1,r1,r2,r3,r4,r5,r6,r7⟩:=hPh bs S R q w gs a w' sl t hE hM hR hT ih;exact fromThere r1 r2 (.inl r3) r4 r5 r6 r7
theorem qbq{l:List Frame}(Z:Cov K P' P c g Sp)(Zs:Cov Ks P' P' c g (fun _=>False))(hPh:qbS K Ks P' P g Sp Fin){q:Goroutine}{w:World}(hT:LT P' true Fin q w) :
 ∀(S:Nat->Prop) (R:Nat->Nat->Prop) (gs:Array Goroutine) (a:Goroutine) (w':World) (sl:Option (Nat×Nat)) (t:Trace),(GR K P' P (.lone l) R q a\/ji K P' P Sp (.lone l) R q a)->MS K Ks P' P g S R q w w'->RM P S gs a w' t ->
 ∃(N:Nat) (S1:Nat->Prop) (R1:Nat->Nat->Prop) (q1:Goroutine) (w1:World) (gs1:Array Goroutine) (a1:Goroutine) (w1':World) (sl1:Option (Nat×Nat)) (t1:Trace),
  runNT P N (crowd gs w' sl) t=(.next (crowd gs1 w1' sl1),t1)/\Leaves q1/\(∀x,Fin q1 (w1.tp x))/\GR K P' P (.lone l) R1 q1 a1/\MS K Ks P' P g S1 R1 q1 w1 w1'/\RM P S1 gs1 a1 w1' t1/\Ext0 K R R1 w w' w1 w1'/\∀c,S1 c->S c\/w'.heap.size<=c:=fun S R gs a w' sl t hE hM hR=>by
 obtain⟨N,S1,R1,q1,w1,gs1,a1,w1',sl1,t1,h1,h2,h3,_,h4,h5,h6,h7,h8⟩:=main_all Z Zs hPh hT (.lone l) S R gs a w' sl t hE hM hR;refine⟨N,S1,R1,q1,w1,gs1,a1,w1',sl1,t1,h1,h2,?_,h4,h5,h6,h7,h8⟩
 cases h3 with
 | fin _ hf=>exact hf
 | step h _ _ _=>exact absurd h2 h
end
end Go.Sim
end
namespace Go.Sim
open Go Go.Conc
section
variable {P':Program} {Fin:Goroutine->World->Prop} {w:World}
theorem qgc(w:World):w.tp w.tape=w:=rfl
theorem LT.ctl{q q':Goroutine}(h:LT P' true Fin q w)(hl:¬Leaves q)(hs:∀w,stepG P' true q w=.go q' w #[]):LT P' true Fin q' w :=
 (h.child (t:=w.tape) hl (hs _)).2
variable {b:Frame} {a:Go.Act} {kk:List Item} {cs:List Frame} {ops:Array Oper} {i:Nat} {rest:List Nat} {o:Oper}
theorem zg{k:List Item}:¬Leaves (G (b.at a k) cs):=by
 rintro⟨h,_⟩;cases h
theorem LT.value{v:Value}{w':World}(h:LT P' true Fin (G (b.at a (.inRegion ops (i::rest)::kk)) cs) w)(ho:ops[i]? = some o)(hw:Region.wanted o (yielded ops a.tmps)=true)(hk:b.kind≠.early)
 (hr:(execOp a.eval o).run P' w=.ok (.value v) w'):LT P' true Fin (G (b.at (a.put o.dst v) (.inRegion ops rest::kk)) cs) w' :=
 (h.child (t:=w.tape) zg (stepG_value ho hw hk hr)).2
theorem LT.ok(h:LT P' true Fin (G (b.at a (.inRegion ops (i::rest)::kk)) cs) w)(ho:ops[i]? = some o)(hw:Region.wanted o (yielded ops a.tmps)=true)
 (hd:∀d∈a.defers,DOk d) (hb:BadK cs) (ht:∀x w',(execOp a.eval o).run P' w=.halt x w'->(∃s,x=.stuck s)\/∃v,x=.panic v):∃n w',(execOp a.eval o).run P' w=.ok n w':=by
 cases hr:(execOp a.eval o).run P' w with
 | ok n w'=>exact⟨n,w',rfl⟩
 | halt x w' =>
   exfalso
   cases h with
   | fin hl _=>exact zg hl
   | step hl nx h1 _ =>
     obtain⟨es,e,hnb⟩:=h1 w.tape;rw[qgc,stepG_oper ho hw]at e;simp only[stepG.apply,Sem.runT_eq,if_true,hr]at e;rcases ht x w' hr with⟨s,rfl⟩|⟨v,rfl⟩
     ·simp[GStep.after]at e
     ·simp only[GStep.after,GStep.go.injEq]at e;refine hnb ?_;rw[<-e.1];obtain⟨ch',e'⟩:=raise_mode (b.at a (.inRegion ops (i::rest)::kk)) [{ v,recovered:=false }];exact .up ch' e' (by rw[xe];exact hd) hb
end
section
variable {K:Cfg} {P':Program} {c g:Nat->Bool} {Fin:Goroutine->World->Prop}
theorem JR(Z:Cov K P' P' c g (fun _=>False)){fr':Frame}{cs':List Frame}{w':World}(hcs:cs'≠[]) :
 ∀(n:Nat) (fr:Frame) (cs:List Frame) (w:World),Ym K P' g { frame:=fr,callers:=cs,status:=.running,dying:=none } w->LT P' true Fin { frame:=fr,callers:=cs,status:=.running,dying:=none } w ->
  runN P' n (lone fr cs w)=.next (lone fr' cs' w') ->
  Desc P' { frame:=fr,callers:=cs,status:=.running,dying:=none } w { frame:=fr',callers:=cs',status:=.running,dying:=none } w'/\Ym K P' g { frame:=fr',callers:=cs',status:=.running,dying:=none } w':=by
 intro n
 induction n with
 | zero =>
   intro fr cs w hI hT hr;simp only[runN,Stepped.next.injEq]at hr;obtain⟨rfl,rfl,rfl⟩:=Yt hr;exact⟨.refl _ _,hI⟩
 | succ n ih =>
   intro fr cs w hI hT hr;simp only[runN]at hr;by_cases hl:Leaves { frame:=fr,callers:=cs,status:=.running,dying:=none }
   ·exfalso;obtain⟨l1,l2,l3⟩:=hl;simp only at l1 l2 l3;subst l3;obtain⟨R,hg,_⟩:=hI
    cases hg with
    | mk ha _ =>
      obtain⟨F,f1,_,_⟩:=ha.std;have hk:=ha.kind;obtain⟨fn0,ts,td,ds,mode,kind,ro⟩:=fr;simp only at l1 l2 hk f1;subst l1 l2 hk
      cases e:(Go.results F ts).run P' w with
      | halt x y =>
        have hs:∃o w1 es,stepG P' true { frame:={ fn:=fn0,tmps:=ts,todo:=td,defers:=[],mode:=.returning,kind:=.normal,roundOf:=ro },callers:=[c0],status:=.running,dying:=none } w=.ended o w1 es:=by
         unfold stepG;dsimp only;unfold unwind;simp only[f1,Sem.runT_eq,e];cases x<;>exact⟨_,_,_,rfl⟩
        obtain⟨_,_,_,hs⟩:=hs;rw[Qr hs]at hr;cases hr
      | ok v1 wa =>
        have hs:∃es,stepG P' true { frame:={ fn:=fn0,tmps:=ts,todo:=td,defers:=[],mode:=.returning,kind:=.normal,roundOf:=ro },callers:=[c0],status:=.running,dying:=none } w=.go { frame:=c0.finish v1,callers:=[],status:=.running,dying:=none } wa es:=by
         unfold stepG;dsimp only;unfold unwind;simp only[f1,Sem.runT_eq,e];exact⟨_,rfl⟩
        obtain⟨_,hs2⟩:=hs;rw[JE hs2]at hr
        cases n with
        | zero =>
          simp only[runN,Stepped.next.injEq]at hr;exact hcs (Yt hr).2.1.symm
        | succ n =>
          simp only[runN]at hr;obtain⟨o,w1,es,hb⟩:=YG (P:=P') (v:=v1) (w:=wa);rw[Qr hb]at hr;cases hr
   ·obtain⟨g1,w1,es,e,hb⟩:∃g1 w1 es,stepG P' true { frame:=fr,callers:=cs,status:=.running,dying:=none } (w.tp w.tape)=.go g1 w1 es/\¬Bad g1:=by
     cases hT with
     | fin h _=>exact absurd h hl
     | step _ nx h1 _=>obtain⟨es,e,hb⟩:=h1 w.tape;exact⟨_,_,es,e,hb⟩
    have hS:=(hI.turn Z hl w.tape e).2 hb;have hT1:=(hT.child hl e).2
    obtain⟨f1,k1,rfl⟩:∃f1 k1,g1={ frame:=f1,callers:=k1,status:=.running,dying:=none }:=by
     obtain⟨R,hg,_⟩:=id hS;cases hg;exact⟨_,_,rfl⟩
    have e0:stepG P' true { frame:=fr,callers:=cs,status:=.running,dying:=none } w=.go { frame:=f1,callers:=k1,status:=.running,dying:=none } w1 es:=e;rw[JE e0]at hr;obtain⟨a,b⟩:=ih f1 k1 w1 hS hT1 hr;exact⟨.step w.tape hl e a,b⟩
theorem Desc.below1{q q1:Goroutine}{w w1:World}(h:Desc P' q w q1 w1)(hne:q≠q1):yD P' q w q1 w1:=by
 cases h with
 | refl=>exact absurd rfl hne
 | step t hl hs d=>exact⟨t,_,_,_,hl,hs,d⟩
theorem qej(Z:Cov K P' P' c g (fun _=>False)){f:FuncId}{args:Array Value}{b:Frame}{cs:List Frame}{w:World}{Post:Value->World->Prop}(hcs:cs≠[])
 (hS:Ym K P' g { frame:=Frame.enter P' f args .normal,callers:=b::cs,status:=.running,dying:=none } w)
 (hT:LT P' true Fin { frame:=Frame.enter P' f args .normal,callers:=b::cs,status:=.running,dying:=none } w)
 (hC:Calls P' f args w fun e w'=>∃v,e=.returned v/\Post v w') :
 ∃v w',Post v w'/\yD P' { frame:=Frame.enter P' f args .normal,callers:=b::cs,status:=.running,dying:=none } w { frame:=b.finish v,callers:=cs,status:=.running,dying:=none } w' /\
  Ym K P' g { frame:=b.finish v,callers:=cs,status:=.running,dying:=none } w':=by
 obtain⟨e,w',fr,⟨v,rfl,hp⟩,⟨n,hn⟩,_,hl⟩:=hC (b::cs)
 have hr:runN P' (n+1) (lone (Frame.enter P' f args .normal) (b::cs) w)=.next (lone (b.finish v) cs w'):=by
  rw[runN_add,hn];simp only[runN,step_leave_returned hl]
 obtain⟨a,s⟩:=JR Z hcs _ _ _ _ hS hT hr;refine⟨v,w',hp,a.below1 fun e=>?_,s⟩;simp only[Goroutine.mk.injEq]at e;have:=congrArg List.length e.2.1;simp at this
end
structure Dn (K:Cfg) (P':Program) (g:Nat->Bool) (Fin:Goroutine->World->Prop) (q0:Goroutine) (w0:World) (q:Goroutine) (w:World):Prop where
 lt:LT P' true Fin q w
 self:Ym K P' g q w
 desc:Desc P' q0 w0 q w
section
variable {K:Cfg} {P':Program} {c g:Nat->Bool} {Fin:Goroutine->World->Prop} {q0 q q1:Goroutine} {w0 w w1:World}
theorem Dn.step(Z:Cov K P' P' c g (fun _=>False)){es:Array Event}(h:Dn K P' g Fin q0 w0 q w)(hl:¬Leaves q)(hs:stepG P' true q w=.go q1 w1 es):Dn K P' g Fin q0 w0 q1 w1:=by
 have hs':stepG P' true q (w.tp w.tape)=.go q1 w1 es:=hs;obtain⟨hb,hT⟩:=h.lt.child hl hs';exact⟨hT,(h.self.turn Z hl w.tape hs').2 hb,h.desc.trans (.step w.tape hl hs' (.refl _ _))⟩
variable {b:Frame} {a:Go.Act} {kk kk':List Item} {cs:List Frame} {ops:Array Oper} {i:Nat} {rest:List Nat} {o:Oper} {x:Code}
theorem Dn.bad(h:Dn K P' g Fin q0 w0 (G (b.at a kk) cs) w):BadK cs:=by
 obtain⟨R,hg,_⟩:=h.self
 cases hg with
 | mk _ hk=>exact hk.bad
theorem Dn.ctl(Z:Cov K P' P' c g (fun _=>False))(h:Dn K P' g Fin q0 w0 (G (b.at a kk) cs) w){a':Go.Act}(hs:∀w,stepG P' true (G (b.at a kk) cs) w=.go (G (b.at a' kk') cs) w #[]):Dn K P' g Fin q0 w0 (G (b.at a' kk') cs) w:=h.step Z zg (hs w)
theorem Dn.seq(Z:Cov K P' P' c g (fun _=>False)){x y:Code}(h:Dn K P' g Fin q0 w0 (G (b.at a (.code (.seq x y)::kk)) cs) w):Dn K P' g Fin q0 w0 (G (b.at a (.code x :: .code y::kk)) cs) w:=h.ctl Z fun _=>stepG_seq
theorem Dn.skip(Z:Cov K P' P' c g (fun _=>False))(h:Dn K P' g Fin q0 w0 (G (b.at a (.code .skip::kk)) cs) w):Dn K P' g Fin q0 w0 (G (b.at a kk) cs) w:=h.ctl Z fun _=>stepG_skip
theorem Dn.block(Z:Cov K P' P' c g (fun _=>False)){id:Nat}(h:Dn K P' g Fin q0 w0 (G (b.at a (.code (.block id (.loop x))::kk)) cs) w):Dn K P' g Fin q0 w0 (G (b.at a (.code x :: .inLoop x :: .inBlock id::kk)) cs) w :=
 (h.ctl Z fun _=>stepG_block).ctl Z fun _=>stepG_loop
theorem Dn.again(Z:Cov K P' P' c g (fun _=>False))(h:Dn K P' g Fin q0 w0 (G (b.at a (.inLoop x::kk)) cs) w):Dn K P' g Fin q0 w0 (G (b.at a (.code x :: .inLoop x::kk)) cs) w:=h.ctl Z fun _=>stepG_inLoop
theorem Dn.region(Z:Cov K P' P' c g (fun _=>False)){id:Nat}(h:Dn K P' g Fin q0 w0 (G (b.at a (.code (.region id ops false)::kk)) cs) w):Dn K P' g Fin q0 w0 (G (b.at a (.inRegion ops (List.range ops.size)::kk)) cs) w:=h.ctl Z fun _=>stepG_region
theorem Dn.rend(Z:Cov K P' P' c g (fun _=>False))(h:Dn K P' g Fin q0 w0 (G (b.at a (.inRegion ops []::kk)) cs) w):Dn K P' g Fin q0 w0 (G (b.at a kk) cs) w:=h.ctl Z fun _=>stepG_region_end
theorem Dn.cond(Z:Cov K P' P' c g (fun _=>False)){t:Operand}{x y:Code}{v:Bool}(h:Dn K P' g Fin q0 w0 (G (b.at a (.code (.cond t x y)::kk)) cs) w)(hv:a.eval t=.bool v):Dn K P' g Fin q0 w0 (G (b.at a (.code (if v then x else y)::kk)) cs) w:=h.ctl Z fun _=>stepG_cond hv
theorem Dn.exit(Z:Cov K P' P' c g (fun _=>False)){id:Nat}(h:Dn K P' g Fin q0 w0 (G (b.at a (.code (.exit id)::kk)) cs) w)(he:exitTo id kk=some kk'):Dn K P' g Fin q0 w0 (G (b.at a kk') cs) w:=h.ctl Z fun _=>stepG_exit he
theorem Dn.value(Z:Cov K P' P' c g (fun _=>False)){v:Value}(h:Dn K P' g Fin q0 w0 (G (b.at a (.inRegion ops (i::rest)::kk)) cs) w)(ho:ops[i]? = some o)(hw:o.guard=none)(hk:b.kind≠.early)
 (hr:(execOp a.eval o).run P' w=.ok (.value v) w1):Dn K P' g Fin q0 w0 (G (b.at (a.put o.dst v) (.inRegion ops rest::kk)) cs) w1 :=
 h.step Z zg (stepG_value ho (by unfold Region.wanted;rw[hw]) hk hr)
theorem Dn.quiet(Z:Cov K P' P' c g (fun _=>False))(h:Dn K P' g Fin q0 w0 (G (b.at a (.inRegion ops (i::rest)::kk)) cs) w)(ho:ops[i]? = some o)(hw:o.guard=none)(hk:b.kind≠.early)
 (hr:(execOp a.eval o).run P' w=.ok .skip w1):Dn K P' g Fin q0 w0 (G (b.at (a.put o.dst undef) (.inRegion ops rest::kk)) cs) w1 :=
 h.step Z zg (stepG_none ho (by unfold Region.wanted;rw[hw]) hk hr)
theorem Dn.ok(h:Dn K P' g Fin q0 w0 (G (b.at a (.inRegion ops (i::rest)::kk)) cs) w)(ho:ops[i]? = some o)(hw:o.guard=none)(hd:a.defers=[])
 (ht:∀x w',(execOp a.eval o).run P' w=.halt x w'->(∃s,x=.stuck s)\/∃v,x=.panic v):∃n w',(execOp a.eval o).run P' w=.ok n w' :=
 h.lt.ok ho (by unfold Region.wanted;rw[hw]) (fun d hx=>by rw[hd]at hx;cases hx) h.bad ht
theorem Dn.ok2(Z:Cov K P' P' c g (fun _=>False))(h:Dn K P' g Fin q0 w0 (G (b.at a (.inRegion ops (i::rest)::kk)) cs) w)(ho:ops[i]? = some o)(hw:o.guard=none)(hd:a.defers=[]):∃n w',(execOp a.eval o).run P' w=.ok n w':=by
 obtain⟨R,hg,h0,hn,hR⟩:=h.self
 cases hr:(execOp a.eval o).run P' w with
 | ok n w'=>exact⟨n,w',rfl⟩
 | halt x w' =>
   exfalso
   have ht:xM x=true:=by
    cases hg with
    | mk ha hk =>
      have hev:(b.at a (.inRegion ops (i::rest)::kk)).eval=a.eval:=Frame.eval_at' b a _
      have hop:opB P' c g o.op=true:=by
       have:=ha.todo;simp only[Frame.at]at this
       cases this with
       | cons h1 h2 =>
         cases h1 with
         | inRegion id ops t hD =>
           have:=((Z.hD _ _).1 hD).2;simp only[zQ,Array.all_eq_true']at this;exact this o (Array.mem_of_getElem? ho)
      have hS:=qh.execOp (K:=K.at w'.drawn) (P':=P') (P:=P') (R:=R) (Z.at w'.drawn).toProgs Z.hc o hop (fun hR' x hxo=>ha.eval Z.hc hR hR' x hxo) (fun v=>rfl);have hwr:WR (K.at w'.drawn) R w w:=W0.wr h0 _ fun _ _ _=>rfl;rw[hev]at hS;exact((hS w w hwr).2.1 x w' hr ql).2
   cases h.lt with
   | fin hl _=>exact zg hl
   | step hl nx h1 _ =>
     obtain⟨es,e,hnb⟩:=h1 w.tape;rw[qgc,stepG_oper ho (by unfold Region.wanted;rw[hw])]at e;simp only[stepG.apply,Sem.runT_eq,if_true,hr]at e
     cases x with
     | panic v =>
       simp only[GStep.after,GStep.go.injEq]at e;refine hnb ?_;rw[<-e.1];obtain⟨ch',e'⟩:=raise_mode (b.at a (.inRegion ops (i::rest)::kk)) [{ v,recovered:=false }];exact .up ch' e' (by rw[xe];intro d hx;change d∈a.defers at hx;rw[hd]at hx;cases hx) h.bad
     | stuck s=>simp[GStep.after]at e
     | unsupported q =>
       cases q<;>first
        | (simp[GStep.after]at e;done)
        | (simp[xM]at ht;done)
     | _=>simp[xM]at ht
theorem Dn.call(Z:Cov K P' P' c g (fun _=>False)){f:FuncId}{fn:Func}{args:Array Operand}{ats:Array TypeId}{Post:Value->World->Prop}(h:Dn K P' g Fin q0 w0 (G (b.at a (.inRegion ops (i::rest)::kk)) cs) w)(ho:ops[i]? = some o)(hw:o.guard=none)(hk:b.kind≠.early)
 (hop:o.op=.call { callee:=.value (.func f),args,argTypes:=ats }) (hf:P'.funcs[f]? = some fn) (hname:(fn.name == "runtime.NumGoroutine")=false) (hb:fn.body.isNone=false) (hcs:cs≠[])
 (hC:Calls P' f (args.map a.eval) w fun e w'=>∃v,e=.returned v/\Post v w'):∃v w',Post v w'/\Dn K P' g Fin q0 w0 (G (b.at (a.put o.dst v) (.inRegion ops rest::kk)) cs) w':=by
 have h1:=h.step Z zg (stepG_enter ho (by unfold Region.wanted;rw[hw]) hk (run_call_body hop hf hname hb));obtain⟨v,w',hp,hB,hS⟩:=qej Z hcs h1.self h1.lt hC;have e:(b.at a (.inRegion ops (i::rest)::kk)).finish v=b.at (a.put o.dst v) (.inRegion ops rest::kk):=by rw[Frame.finish_at,ho];rfl
 rw[e]at hB hS;obtain⟨t,q1,w1,es,hl,hs,d⟩:=id hB;exact⟨v,w',hp,h1.lt.below1 hB,hS,h1.desc.trans (.step t hl hs d)⟩
end
end Go.Sim
