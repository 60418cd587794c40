/-
  Lemmas about the program and the machine (SimBin to SimExec), upon which the last text of this claim rests; no condition.
-/
import Derived.Test.YtjkbbnphdbgjiaaGreatDoorEz22
set_option linter.unusedSimpArgs false
set_option linter.unusedVariables false
set_option maxHeartbeats 2000000
namespace Go.Sim
open Go Go.Instr
section
variable {P' P:Program}
theorem Same.cellOfByte(S:Same P' P):∀(d:Nat) (t:TypeId) (o:Nat),Go.cellOfByte P' d t o=Go.cellOfByte P d t o
 | 0,_,_=>rfl
 | d+1,t,o=>by
   have ih:=Same.cellOfByte S d;unfold Go.cellOfByte;simp only[S.und,S.bytesOf,S.cellsOf,ih]
theorem Same.cellAtBytes(S:Same P' P)(d:Nat)(t:TypeId)(n o:Nat)(z:Int):Go.cellAtBytes P' d t n o z=Go.cellAtBytes P d t n o z:=by
 unfold Go.cellAtBytes;simp only[S.cellsOf,S.bytesOf,S.byteOfCell,S.cellOfByte]
end
section
variable {K:Cfg} {P' P:Program} {R:Nat->Nat->Prop}
theorem qh.unsafeAdd(S:Same P' P)(t:TypeId)(o o':Option Addr)(ho:(o=none/\o'=none)\/∃a a',o=some a/\o'=some a'/\qW R a a'){y y':Value}(hy:VR K.C R y y') :
 qh K P' P R (Builtin.unsafeAdd_ #[] t #[.pointer o,y]) (Builtin.unsafeAdd_ #[] t #[.pointer o',y']) (fun R1 a b=>VR K.C R1 a b/\a≠.tuple #[]):=by
 unfold Builtin.unsafeAdd_;dsimp only;refine(qh.asInt hy).bind fun R1 n n' h e=>?_;subst e;rcases ho with⟨rfl,rfl⟩|⟨a,a',rfl,rfl,ha⟩
 ·dsimp only;split
  ·exact .unsupported
  ·split<;>first
    | exact .unsupported
    | exact qh.halted
 ·dsimp only;split
  ·refine(qh.noViewAt (h _ _ ha.1)).bind fun R2 u v h2 e=>?_;obtain⟨rfl,rfl⟩:=e;exact .pure ⟨.ptr ((ha.mono h).mono h2),by simp⟩
  ·split
   ·exact qh.halted
   ·refine(qh.shape (h _ _ ha.1)).bind fun R2 u v h2 e=>?_;subst e
    cases v with
    | none=>exact .unsupported
    | some v =>
      obtain⟨el,cells⟩:=v;dsimp only;refine qh.program ?_;rw[S.cellsOf,S.depth,S.cellAtBytes,ha.2.1]
      cases Go.cellAtBytes P P.depth el (cells/P.cellsOf el) a.off n' with
      | none=>exact .unsupported
      | some off=>exact .pure ⟨.ptr ⟨h2 _ _ (h _ _ ha.1),rfl,ha.2.2⟩,by simp⟩
theorem qh.asNumber{a a':Addr}(ha:qW R a a')(l:Bool):qh K P' P R (Go.asNumber a l) (Go.asNumber a' l) (fun R1 x y=>VR K.C R1 x y):=by
 unfold Go.asNumber;exact(qh.newObj (.number l ha)).bind fun R1 r r' _ hr=>.pure (.ptr (.none hr))
theorem qh.movedNumber(S:Same P' P)(t:TypeId)(o o':Option Addr)(ho:(o=none/\o'=none)\/∃a a',o=some a/\o'=some a'/\qW R a a'){y y':Value}(hy:VR K.C R y y') :
 qh K P' P R (Go.movedNumber t (.pointer o) y) (Go.movedNumber t (.pointer o') y') (fun R1 a b=>VR K.C R1 a b):=by
 unfold Go.movedNumber;refine(qh.underlying S t).bind fun R1 d d' h e=>?_;obtain⟨rfl,_⟩:=e;have ho1:(o=none/\o'=none)\/∃a a',o=some a/\o'=some a'/\qW R1 a a':=ho.imp id fun⟨a,a',e1,e2,ha⟩=>⟨a,a',e1,e2,ha.mono h⟩;dsimp only;split
 ·exact qh.halted
 ·rcases ho1 with⟨rfl,rfl⟩|⟨a,a',rfl,rfl,ha⟩
  ·exact(qh.unsafeAdd S t none none (.inl ⟨rfl,rfl⟩) (hy.mono h)).mono fun _ _ _ _ h=>h.1
  ·refine(qh.behindNumber ha).bind fun R2 u u' h2 e=>?_;obtain⟨x,l⟩:=u;obtain⟨x',l'⟩:=u';obtain⟨hx,rfl⟩:=e;dsimp only at hx⊢;refine(qh.unsafeAdd S t (some x) (some x') (.inr ⟨x,x',rfl,rfl,hx⟩) ((hy.mono h).mono h2)).bind fun R3 v v' h3 hv=>?_;obtain⟨hv,hne⟩:=hv
   cases hv<;>first
    | exact absurd rfl hne
    | exact qh.asNumber (by assumption) _
    | exact .pure (.zcap _)
    | exact .pure (by constructor<;>assumption)
    | exact .pure (by constructor)
theorem qh.movedPointer(S:Same P' P)(t:TypeId)(o o':Option Addr)(ho:(o=none/\o'=none)\/∃a a',o=some a/\o'=some a'/\qW R a a'){y y':Value}(hy:VR K.C R y y') :
 qh K P' P R (Go.movedPointer t (.pointer o) y) (Go.movedPointer t (.pointer o') y') (fun R1 a b=>VR K.C R1 a b):=by
 unfold Go.movedPointer;rcases ho with⟨rfl,rfl⟩|⟨a,a',rfl,rfl,ha⟩
 ·exact(qh.unsafeAdd S t none none (.inl ⟨rfl,rfl⟩) hy).mono fun _ _ _ _ h=>h.1
 ·dsimp only;refine(qh.numberAt ha.1).bind fun R1 u v h e=>?_;rcases e with⟨rfl,rfl⟩|⟨b,b',l,rfl,rfl,hb⟩
  ·exact(qh.unsafeAdd S t (some a) (some a') (.inr ⟨a,a',rfl,rfl,ha.mono h⟩) (hy.mono h)).mono fun _ _ _ _ h=>h.1
  ·exact qh.halted
theorem qh.twoPlaces(S:Same P' P)(hg:K.ng=P.globals.size){a a' b b':Addr}(ha:qW R a a')(hb:qW R b b'):qh K P' P R (Op.twoPlaces a b) (Op.twoPlaces a' b') (fun _ x y=>y=x):=by
 unfold Op.twoPlaces;refine qh.program ?_;refine qh.at fun w w' hw=>?_
 have e2:decide (a'.block≥P.globals.size)=decide (a.block≥P.globals.size):=by
  have:=hw.glob _ _ ha.1;rw[hg]at this;simp only[ge_iff_le,decide_eq_decide];omega
 have e1:(a'.block != b'.block)=(a.block != b.block):=by simp only[bne,hw.beqBlock ha hb]
 rw[S.globals,e1,e2];dsimp only;split
 ·exact qh.halted
 ·refine(qh.byteOf S ha).bind fun R1 x y h e=>?_;subst e;refine(qh.byteOf S (hb.mono h)).bind fun R2 x y h2 e=>?_;subst e;exact .pure rfl
theorem qh.addrSub(S:Same P' P)(hg:K.ng=P.globals.size)(k:IntKind){a a' b b':Addr}(ha:qW R a a')(hb:qW R b b'):qh K P' P R (Op.addrSub k a b) (Op.addrSub k a' b') (fun R1 x y=>VR K.C R1 x y):=by
 unfold Op.addrSub;exact(qh.twoPlaces S hg ha hb).bind fun R1 x y _ e=>by subst e;exact .pure (.int _ _)
theorem qh.addrCmp(S:Same P' P)(hg:K.ng=P.globals.size)(op:BinOp){a a' b b':Addr}(ha:qW R a a')(hb:qW R b b'):qh K P' P R (Op.addrCmp op a b) (Op.addrCmp op a' b') (fun R1 x y=>VR K.C R1 x y):=by
 unfold Op.addrCmp;refine(qh.twoPlaces S hg ha hb).bind fun R1 x y _ e=>?_;subst e;dsimp only;split<;>first|exact .pure (.bool _)|exact .unsupported
theorem qh.addrMod(S:Same P' P)(k:IntKind)(n:Int){a a':Addr}(ha:qW R a a'):qh K P' P R (Op.addrMod k a n) (Op.addrMod k a' n) (fun R1 x y=>VR K.C R1 x y):=by
 unfold Op.addrMod;refine(qh.shape ha.1).bind fun R1 x y h e=>?_;subst e
 cases y with
 | none=>exact .unsupported
 | some v =>
   obtain⟨el,c⟩:=v;dsimp only;refine(qh.typeInfo S el).bind fun R2 x y h2 e=>?_;obtain⟨rfl,_⟩:=e;split
   ·exact qh.halted
   ·refine(qh.byteOf S ((ha.mono h).mono h2)).bind fun R2 x y h2 e=>?_;subst e;exact .pure (.int _ _)
def xA:BinOp->Bool
 | .add | .sub | .mul | .quo | .rem | .lss | .leq | .gtr | .geq | .and | .or | .xor | .andNot | .shl | .shr=>true
 | _=>false
theorem qh.intBin(op:BinOp)(k k':IntKind)(a b:Int)(t:TypeId)(h:xA op=true):qh K P' P R (Go.binOp op t (.int k a) (.int k' b)) (Go.binOp op t (.int k a) (.int k' b)) (fun R1 x y=>VR K.C R1 x y):=by
 cases op<;>first
  | (simp[xA]at h;done)
  | (unfold Go.binOp;dsimp only
     first
      | (unfold Op.shift;split
         ·exact .runtimePanic
         ·dsimp only;exact .pure (.int _ _))
      | (split
         ·exact .stuck
         ·first
           | (unfold Op.intArith;exact .pure (.int _ _))
           | (unfold Op.intCmp;exact .pure (.bool _))
           | (unfold Op.intBits;exact .pure (.int _ _))
           | (unfold Op.intDiv;split
              ·exact .runtimePanic
              ·exact .pure (.int _ _))))
theorem qh.strBin(op:BinOp)(a b:ByteArray)(t:TypeId):qh K P' P R (Go.binOp op t (.string a) (.string b)) (Go.binOp op t (.string a) (.string b)) (fun R1 x y=>VR K.C R1 x y):=by
 cases op<;>(unfold Go.binOp;dsimp only;unfold Op.stringOp;dsimp only;first
  | exact .pure (.bool _)
  | exact .stuck
  | (split
     ·exact .unsupported
     ·exact .pure (.string _)))
theorem qh.addPtr(S:Same P' P)(t:TypeId)(o o':Option Addr)(ho:(o=none/\o'=none)\/∃a a',o=some a/\o'=some a'/\qW R a a')(k:IntKind)(n:Int) :
 qh K P' P R (Go.binOp .add t (.pointer o) (.int k n)) (Go.binOp .add t (.pointer o') (.int k n)) (fun R1 x y=>VR K.C R1 x y):=by
 unfold Go.binOp;dsimp only;refine(qh.underlying S t).bind fun R1 d d' h e=>?_;obtain⟨rfl,_⟩:=e;have ho1:(o=none/\o'=none)\/∃a a',o=some a/\o'=some a'/\qW R1 a a':=ho.imp id fun⟨a,a',e1,e2,ha⟩=>⟨a,a',e1,e2,ha.mono h⟩;split
 ·exact qh.movedPointer S t o o' ho1 (.int k n)
 ·exact qh.movedNumber S t o o' ho1 (.int k n)
theorem qh.ptrSub(S:Same P' P)(hg:K.ng=P.globals.size)(t:TypeId){a a' b b':Addr}(ha:qW R a a')(hb:qW R b b'):qh K P' P R (Go.binOp .sub t (.pointer (some a)) (.pointer (some b))) (Go.binOp .sub t (.pointer (some a')) (.pointer (some b'))) (fun R1 x y=>VR K.C R1 x y):=by
 unfold Go.binOp;dsimp only;refine(qh.behindNumber ha).bind fun R1 u u' h e=>?_;refine(qh.behindNumber (hb.mono h)).bind fun R2 v v' h2 e2=>?_;exact qh.addrSub S hg .u64 (e.1.mono h2) e2.1
theorem qh.ptrCmp(S:Same P' P)(hg:K.ng=P.globals.size)(op:BinOp)(t:TypeId)(ho:op=.lss\/op=.leq\/op=.gtr\/op=.geq){a a' b b':Addr}(ha:qW R a a')(hb:qW R b b') :
 qh K P' P R (Go.binOp op t (.pointer (some a)) (.pointer (some b))) (Go.binOp op t (.pointer (some a')) (.pointer (some b'))) (fun R1 x y=>VR K.C R1 x y):=by
 rcases ho with rfl|rfl|rfl|rfl <;>
 ·unfold Go.binOp;dsimp only;refine(qh.behindNumber ha).bind fun R1 u u' h e=>?_;refine(qh.behindNumber (hb.mono h)).bind fun R2 v v' h2 e2=>?_;exact qh.addrCmp S hg _ (e.1.mono h2) e2.1
theorem qh.ptrMod(S:Same P' P)(k:IntKind)(n:Int){a a':Addr}(ha:qW R a a'):qh K P' P R (do Op.addrMod k (<-Go.behindNumber a).1 n) (do Op.addrMod k (<-Go.behindNumber a').1 n) (fun R1 x y=>VR K.C R1 x y) :=
 (qh.behindNumber ha).bind fun _ _ _ _ e=>qh.addrMod S k n e.1
theorem qh.arith(S:Same P' P)(hg:K.ng=P.globals.size)(op:BinOp)(t:TypeId)(h:xA op=true){x x' y y':Value}(hx:VR K.C R x x')(hy:VR K.C R y y'):qh K P' P R (Go.binOp op t x y) (Go.binOp op t x' y') (fun R1 x y=>VR K.C R1 x y):=by
 cases hx with
 | int k a=>cases hy with
   | int k' b=>exact qh.intBin op k k' a b t h
   | pnil=>cases op<;>first
      | (simp[xA]at h;done)
      | exact .unsupported
      | exact qh.movedNumber S t none none (.inl ⟨rfl,rfl⟩) (.int k a)
   | ptr hb=>cases op<;>first
      | (simp[xA]at h;done)
      | exact .unsupported
      | exact qh.movedNumber S t _ _ (.inr ⟨_,_,rfl,rfl,hb⟩) (.int k a)
      | exact qh.ptrMod S k (a+1) hb
   | _=>cases op<;>first|(simp[xA]at h;done)|exact .stuck|exact .unsupported
 | string a=>cases hy with
   | string b=>exact qh.strBin op a b t
   | _=>cases op<;>first|(simp[xA]at h;done)|exact .stuck|exact .unsupported
 | pnil=>cases hy with
   | int k n=>cases op<;>first
      | (simp[xA]at h;done)
      | exact .unsupported
      | exact .stuck
      | exact qh.addPtr S t none none (.inl ⟨rfl,rfl⟩) k n
      | exact qh.movedNumber S t none none (.inl ⟨rfl,rfl⟩) (.int k (-n))
   | _=>cases op<;>first|(simp[xA]at h;done)|exact .unsupported|exact .stuck
 | ptr ha=>cases hy with
   | int k n=>cases op<;>first
      | (simp[xA]at h;done)
      | exact .unsupported
      | exact .stuck
      | exact qh.addPtr S t _ _ (.inr ⟨_,_,rfl,rfl,ha⟩) k n
      | exact qh.movedNumber S t _ _ (.inr ⟨_,_,rfl,rfl,ha⟩) (.int k (-n))
      | exact qh.ptrMod S k n ha
      | exact qh.ptrMod S k (n+1) ha
   | ptr hb=>cases op<;>first
      | (simp[xA]at h;done)
      | exact .unsupported
      | exact qh.ptrSub S hg t ha hb
      | exact qh.ptrCmp S hg _ t (by simp) ha hb
   | _=>cases op<;>first|(simp[xA]at h;done)|exact .unsupported|exact .stuck
 | _=>cases hy<;>cases op<;>first|(simp[xA]at h;done)|exact .stuck|exact .unsupported
end
section
variable {K:Cfg} {P' P:Program} {R:Nat->Nat->Prop}
def cmpB(P:Program)(t:TypeId)(y:Operand):Bool :=
 !P.eqGuardType P.depth t&&(eqT P 6 t||(match P.underlying t with|some (.slice _)=>true|_=>false)&&(match y with | .const (.slice none _ _)=>true|_=>false))
theorem qh.eqGuard(S:Same P' P)(op:BinOp)(t:TypeId)(p q:Operand)(h:cmpB P t q=true){x x' y y':Value}(hx:VR K.C R x x')(hy:VR K.C R y y') :
 qh K P' P R (Go.eqGuard op t p q x y) (Go.eqGuard op t p q x' y') (fun _ _ _=>True):=by
 have hgt:P.eqGuardType P.depth t=false:=by
  simp only[cmpB,Bool.and_eq_true,Bool.not_eq_true']at h;exact h.1
 have hni:∀ms,P.underlying t≠some (.interface ms):=by
  intro ms e;simp only[cmpB,Bool.and_eq_true,Bool.or_eq_true,e]at h;rcases h.2 with h|h
  ·simp only[eqT,e,Bool.and_eq_true]at h;exact absurd h.2 (by simp)
  ·exact absurd h.1 (by simp)
 clear h
 have inner:qh K P' P R (match x,y with
  | .nilIface,.nilIface =>
    if(p matches .const _)||(q matches .const _)then(Pure.pure ():Sem Unit)else do
    if <-Op.eqGuardIn Op.maxDepth t x y then Go.unsupported (.noEntry "binop/eql: two nil values of an interface type with methods, neither of them the literal nil")
  | .agg _,.agg _=>do
    if !(<-Go.program).eqGuardType (<-Go.program).depth t then(Pure.pure ():Sem Unit)else do
    if <-Op.eqGuardIn Op.maxDepth t x y then Go.unsupported (.noEntry "binop/eql: two nil values of an interface type with methods, in a part of a struct or an array")
  | _,_=>Pure.pure ()) (match x',y' with
  | .nilIface,.nilIface =>
    if(p matches .const _)||(q matches .const _)then(Pure.pure ():Sem Unit)else do
    if <-Op.eqGuardIn Op.maxDepth t x' y' then Go.unsupported (.noEntry "binop/eql: two nil values of an interface type with methods, neither of them the literal nil")
  | .agg _,.agg _=>do
    if !(<-Go.program).eqGuardType (<-Go.program).depth t then(Pure.pure ():Sem Unit)else do
    if <-Op.eqGuardIn Op.maxDepth t x' y' then Go.unsupported (.noEntry "binop/eql: two nil values of an interface type with methods, in a part of a struct or an array")
  | _,_=>Pure.pure ()) (fun _ _ _=>True):=by
  cases hx<;>cases hy<;>first
   | (exact qh.pure trivial)
   | (cases x'<;>first|exact qh.pure trivial|(simp_all[xY];done))
   | (cases y'<;>first|exact qh.pure trivial|(simp_all[xY];done))
   | (cases x'<;>cases y'<;>first|exact qh.pure trivial|(simp_all[xY];done))
   | skip
  ·dsimp only;generalize((match p with | .const _=>true|_=>false)||(match q with | .const _=>true|_=>false))=bb
   cases bb with
   | true=>exact .pure trivial
   | false =>
     refine qh.bind (Q:=fun _ a b=>b=a/\a=false) ?_ fun R1 a b _ e=>?_
     ·unfold Op.maxDepth Op.eqGuardIn;refine(qh.underlying S t).bind fun R1 d d' _ e=>?_;obtain⟨rfl,hd⟩:=e
      cases d'<;>first
       | exact absurd hd (hni _)
       | exact .pure ⟨rfl,rfl⟩
     ·obtain⟨rfl,rfl⟩:=e;exact .pure trivial
  ·refine qh.program (qh.program ?_);rw[S.depth,S.eqGuardType,hgt];exact .pure trivial
 unfold Go.eqGuard
 cases op<;>first
  | exact inner
  | exact qh.pure trivial
theorem qh.lostAt{α β γ:Type}{s:Sem α}{s0:Sem γ}{s':Sem β}{Q0:(Nat->Nat->Prop)->α->γ->Prop}{Q:(Nat->Nat->Prop)->α->β->Prop}(k:qh K P' P R s s0 Q0)(h:∀w,∃x w1,s.run P' w=.halt x w1):qh K P' P R s s' Q:=fun w w' hw=>by
 obtain⟨x,w1,e⟩:=h w;exact⟨fun a w2 hr _=>(by rw[e]at hr;cases hr),(k w w' hw).2.1,(k w w' hw).2.2⟩
theorem qdg(S:Same P' P)(t:TypeId)(q:Operand)(h:cmpB P t q=true)(hq:∀v,q=.const v->Value.tuple #[]=v)(w:World):∃x w1,(Op.equal t (.tuple #[]) (.tuple #[])).run P' w=.halt x w1:=by
 simp only[cmpB,Bool.and_eq_true,Bool.or_eq_true]at h;rcases h.2 with h|⟨h1,h2⟩
 ·unfold Op.equal Op.maxDepth Op.equalIn;rw[Sem.run_bind];unfold eqT at h;rw[Bool.and_eq_true]at h
  cases e:P.underlying t with
  | none=>rw[e]at h;simp at h
  | some d =>
    have e':(Go.underlying t).run P' w=.ok d w:=by
     unfold Go.underlying;simp only[Sem.run_bind,run_program,Result.andThen_ok,S.und,e];rfl
    rw[e'];rw[e]at h
    cases d<;>first
     | exact⟨_,_,rfl⟩
     | (exfalso;have h2:=h.2;simp at h2;done)
 ·cases q with
  | const v =>
    obtain rfl:=hq v rfl;simp at h2
  | _=>simp at h2
theorem qck(S:Same P' P)(op:BinOp)(ho:op=.eql\/op=.neq)(t:TypeId)(q:Operand)(h:cmpB P t q=true)(hq:∀v,q=.const v->Value.tuple #[]=v){x' y':Value}
 (key:qh K P' P R (Op.equal t (.tuple #[]) (.tuple #[])) (Op.equal t x' y') (fun _ a b=>b=a)) (s':Sem Value) (Q:(Nat->Nat->Prop)->Value->Value->Prop):qh K P' P R (Go.binOp op t (.tuple #[]) (.tuple #[])) s' Q:=by
 have hh:=qdg S t q h hq;rcases ho with rfl|rfl
 ·show qh K P' P R (Op.equal t (.tuple #[]) (.tuple #[]) >>= fun b=>Pure.pure (Value.bool b)) s' Q;refine qh.lostAt (qh.bind (f':=fun _=>Pure.pure ()) (Q':=fun _ _ _=>True) key fun R1 a b _ e=>.pure trivial) fun w=>?_;obtain⟨x,w1,e⟩:=hh w;exact⟨x,w1,by rw[Sem.run_bind,e];rfl⟩
 ·show qh K P' P R (Op.equal t (.tuple #[]) (.tuple #[]) >>= fun b=>Pure.pure (Value.bool (!b))) s' Q;refine qh.lostAt (qh.bind (f':=fun _=>Pure.pure ()) (Q':=fun _ _ _=>True) key fun R1 a b _ e=>.pure trivial) fun w=>?_;obtain⟨x,w1,e⟩:=hh w;exact⟨x,w1,by rw[Sem.run_bind,e];rfl⟩
theorem qh.cmp(S:Same P' P)(hg:K.ng=P.globals.size)(op:BinOp)(ho:op=.eql\/op=.neq)(t:TypeId)(q:Operand)(h:cmpB P t q=true){x x' y y':Value}(hx:VR K.C R x x')(hy:VR K.C R y y')(hq:∀v,q=.const v->y=v) :
 qh K P' P R (Go.binOp op t x y) (Go.binOp op t x' y') (fun R1 x y=>VR K.C R1 x y):=by
 have key:qh K P' P R (Op.equal t x y) (Op.equal t x' y') (fun _ a b=>b=a):=by
  simp only[cmpB,Bool.and_eq_true,Bool.or_eq_true]at h;rcases h.2 with h|⟨h1,h2⟩
  ·exact qh.equal S hg h hx hy
  ·cases q with
   | const v =>
     obtain rfl:=hq v rfl
     cases hy<;>first
      | (simp at h2;done)
      | skip
     unfold Op.equal Op.maxDepth Op.equalIn;refine(qh.underlying S t).bind fun R1 d d' _ e=>?_;obtain⟨rfl,hd⟩:=e;rw[hd]at h1
     cases d'<;>first
      | (simp at h1;done)
      | skip
     cases hx<;>first
      | exact .pure rfl
      | exact .stuck
   | _=>simp at h2
 rcases ho with rfl|rfl
 ·cases hx<;>cases hy<;>first
   | (unfold Go.binOp;dsimp only;exact key.bind fun R1 a b _ e=>by subst e;exact .pure (.bool _))
   | (cases x'<;>first|(simp_all[xY];done)|(unfold Go.binOp;dsimp only;exact key.bind fun R1 a b _ e=>by subst e;exact .pure (.bool _)))
   | (cases y'<;>first|(simp_all[xY];done)|(unfold Go.binOp;dsimp only;exact key.bind fun R1 a b _ e=>by subst e;exact .pure (.bool _)))
   | exact qck S _ (.inl rfl) t q h hq key _ _
   | exact qh.strBin .eql _ _ t
   | (unfold Go.binOp;dsimp only;split
      ·exact .stuck
      ·exact .pure (.bool _))
 ·cases hx<;>cases hy<;>first
   | (unfold Go.binOp;dsimp only;exact key.bind fun R1 a b _ e=>by subst e;exact .pure (.bool _))
   | (cases x'<;>first|(simp_all[xY];done)|(unfold Go.binOp;dsimp only;exact key.bind fun R1 a b _ e=>by subst e;exact .pure (.bool _)))
   | (cases y'<;>first|(simp_all[xY];done)|(unfold Go.binOp;dsimp only;exact key.bind fun R1 a b _ e=>by subst e;exact .pure (.bool _)))
   | exact qck S _ (.inr rfl) t q h hq key _ _
   | exact qh.strBin .neq _ _ t
   | (unfold Go.binOp;dsimp only;split
      ·exact .stuck
      ·exact .pure (.bool _))
theorem qh.unary(op:UnOp){x x':Value}(hx:VR K.C R x x'):qh K P' P R (Op.unary op x) (Op.unary op x') (fun R1 x y=>VR K.C R1 x y):=by
 unfold Op.unary
 cases hx<;>cases op<;>first
  | exact .stuck
  | exact .unsupported
  | exact .pure (.bool _)
  | (dsimp only;unfold Op.intArith;exact .pure (.int _ _))
  | (dsimp only;unfold Op.intBits;exact .pure (.int _ _))
def convB(P:Program)(s d:TypeId):Bool :=
 match P.underlying s,P.underlying d with
 | some (.int _),some (.int _)=>true
 | some .string,some (.slice e)=>(match P.underlying e with|some (.int .u8)=>true|_=>false)
 | some .string,some .string=>true
 | _,_=>false
theorem qh.stringToBytes(e:TypeId)(s:ByteArray):qh K P' P R (Conv.stringToBytes e s) (Conv.stringToBytes e s) (fun R1 x y=>VR K.C R1 x y):=by
 unfold Conv.stringToBytes;refine(qh.choose _).bind fun R1 c c' h1 e1=>?_;subst e1
 have ar:AR K.C R1 ((s.data.map fun b=>Value.int .u8 b.toNat)++Array.replicate (c'-s.size) (.int .u8 0)) ((s.data.map fun b=>Value.int .u8 b.toNat)++Array.replicate (c'-s.size) (.int .u8 0)) :=
  (AR.map _ fun _ _=>.int _ _).append (AR.replicate _ (.int _ _))
 dsimp only;refine qh.at fun w w' hw=>?_
 have fresh:qh K P' P R1 (Go.newRow e ((s.data.map fun b=>Value.int .u8 b.toNat)++Array.replicate (c'-s.size) (.int .u8 0))) (Go.newRow e ((s.data.map fun b=>Value.int .u8 b.toNat)++Array.replicate (c'-s.size) (.int .u8 0))) (fun R2 a a'=>qW R2 a a'/\¬K.Fz a.block):=by
  intro w w' hw;refine⟨fun a w1 hr hd=>?_,(qh.newRow (P':=P') (P:=P) e ar w w' hw).2⟩;obtain⟨R2,b,w1',e1,h1,h2,h3,h4,h5⟩:=(qh.newRow (P':=P') (P:=P) e ar w w' hw).1 a w1 hr hd;refine⟨R2,b,w1',e1,h1,h2,h3,⟨h4,fun hz=>?_⟩,h5⟩;obtain⟨c,t,hi,hc,_⟩:=hw.fz _ hz;have hlt:=(qy hc).1;unfold Go.newRow at hr;simp only[Sem.run_bind,run_newObj,Result.andThen_ok,Sem.run_pure,Result.ok.injEq]at hr;rw[<-hr.1]at hlt;simp at hlt
 refine fresh.bind fun R2 a a' h2 ha=>?_;refine qh.bind (Q:=fun _ _ _=>True) ?_ fun R3 _ _ h3 _=>.pure (.slice _ _ (ha.1.mono h3));unfold Go.markStringish;refine(qh.shape ha.1.1).bind fun R3 x y h3 e=>?_;subst e
 cases y with
 | none=>exact .pure trivial
 | some y =>
   dsimp only;exact qh.freeze ⟨h3 _ _ ha.1.1,rfl,rfl⟩ ha.2
theorem qh.convert(S:Same P' P)(s d:TypeId)(h:convB P s d=true){x x':Value}(hx:VR K.C R x x'):qh K P' P R (Go.convert s d x) (Go.convert s d x') (fun R1 x y=>VR K.C R1 x y):=by
 unfold Go.convert;refine(qh.underlying S s).bind fun R1 a a' h1 e=>?_;obtain⟨rfl,ha⟩:=e;refine(qh.underlying S d).bind fun R2 b b' h2 e=>?_;obtain⟨rfl,hb⟩:=e;replace hx:=(hx.mono h1).mono h2;simp only[convB,ha,hb]at h
 cases a'<;>cases b'<;>first
  | (simp at h;done)
  | skip
 ·cases hx<;>first
   | exact .unsupported
   | (dsimp only;unfold Conv.intToInt;exact .pure (.int _ _))
 ·cases hx<;>first
   | exact .unsupported
   | exact .pure (.string _)
   | (dsimp only;unfold Conv.intToString;exact .pure (.string _))
 ·cases hx<;>first
   | exact .unsupported
   | skip
  ·rename_i el s;dsimp only;refine(qh.underlying S el).bind fun R3 c c' h3 e=>?_;obtain⟨rfl,hc⟩:=e;simp only[hc]at h
   cases c'<;>first
    | (simp at h;done)
    | skip
   rename_i k
   cases k<;>first
    | (simp at h;done)
    | exact qh.stringToBytes _ _
end
end Go.Sim
