/-
  Lemmas about the program and the machine (Ali to LoadMore), upon which the last text of this claim rests; no condition.
-/
import Derived.Lib.Hide
import Derived.Test.YtjkbbnphdbgjiaaGreatDoorChecked
import Derived.Calls
import Derived.Laws.Sem
import Derived.WalkKit
import Derived.KernelRfl
import Derived.WalkSmall
set_option linter.unusedSimpArgs false
set_option linter.unusedVariables false
section
namespace Go
theorem qd{p:Prop}(h:p):RowKit.Hid p:=Lib.hid h
theorem ql{n:Nat}:n<=n:=Nat.le_refl n
theorem qg{a b:Prop}(h:a)(k:b):a/\b:=⟨h,k⟩
theorem qy{α:Type _}{i:Nat}{b:α}{xs:Array α}(h:xs[i]? = some b):∃h:i<xs.size,xs[i]=b:=Array.getElem?_eq_some_iff.1 h
theorem qB{α:Type _}{i:Nat}{a:α}{l:List α}(h:l[i]? = some a):∃h:i<l.length,l[i]=a:=List.getElem?_eq_some_iff.1 h
theorem qJ{α:Type _}{xs:Array α}{i j:Nat}(h:i≠j){a:α}:(xs.setIfInBounds i a)[j]? = xs[j]? := Array.getElem?_setIfInBounds_ne h
theorem qM{α:Type _}{l:List α}{i:Nat}(h:i<l.length):l[i]? = some l[i]:=List.getElem?_eq_getElem h
theorem qI{α:Type _}{l:List α}{i:Nat}{a:α}(h:l[i]? = some a):a∈l:=List.mem_of_getElem? h
theorem qz{α:Type _}{a b:α}(h:some a=some b):a=b:=Option.some.inj h
end Go
end
namespace Go.Proofs.Tryz
open Go
def op2(d:Option Tmp)(o:Op)(t:TypeId:=0):Oper:={ dst:=d,op:=o,type:=t,pos:= "",after:=#[],guard:=none }
def sO:Array Oper:=#[op2 (some 4) (.box 73 (.tmp 0)),op2 (some 5) (.box 74 (.tmp 1)),op2 (some 6) (.box 86 (.tmp 2)),op2 (some 7) (.box 81 (.tmp 3)),
 op2 (some 9) (.makeMap 71 none) 71,op2 (some 10) (.fieldAddr 73 (.tmp 4) 0),op2 (some 11) (.load 28 (.tmp 10)) 28,op2 (some 12) (.load 74 (.tmp 5)) 74,
 op2 (some 13) (.load 86 (.tmp 6)) 86,op2 (some 14) (.load 81 (.tmp 7)) 81,op2 (some 15) (.build 73 #[(0,.tmp 11),(1,.tmp 9)]) 73,
 op2 (some 16) (.call { callee:=.value (.func 96),args:=#[.tmp 15,.tmp 12,.tmp 13,.tmp 14],argTypes:=#[73,74,86,81] }) 3,op2 (some 8) (.assign (.tmp 16)) 3]
def QO:Code:=.seq (.region 0 sO false) .ret
noncomputable def qfS:Func:={ Tryz.f71 with ntmps:=17,body:=some QO,tmpNames:=#[] }
noncomputable def qp:Program:={ Tryz.prog with funcs:=Tryz.prog.funcs.setIfInBounds 71 qfS }
end Go.Proofs.Tryz
namespace Go.Sim
open Go
section
variable {Q P:Program} (h:Q.toTables=P.toTables) (t:TypeId) (w:World)
include h
theorem qcz:Q.underlying t=P.underlying t:=by
 obtain⟨T',f'⟩:=Q;obtain⟨T,f⟩:=P;simp only at h;subst h;rfl
theorem qae:Q.info? t=P.info? t:=by
 obtain⟨T',f'⟩:=Q;obtain⟨T,f⟩:=P;simp only at h;subst h;rfl
theorem Ye:(Go.underlying t).run Q w=(Go.underlying t).run P w:=by
 unfold Go.underlying;simp only[Sem.run_bind,run_program,Result.andThen_ok,qcz h]
 cases P.underlying t with
 | none=>rfl
 | some d=>rfl
theorem jB:(Go.typeInfo t).run Q w=(Go.typeInfo t).run P w:=by
 unfold Go.typeInfo;simp only[Sem.run_bind,run_program,Result.andThen_ok,qae h]
 cases P.info? t with
 | none=>rfl
 | some d=>rfl
theorem Xu:(Go.isAgg t).run Q w=(Go.isAgg t).run P w:=by
 unfold Go.isAgg;rw[Sem.run_bind,Sem.run_bind,Ye h];generalize(Go.underlying t).run P w=r
 cases r with
 | halt x y=>exact Eq.trans (Result.andThen_halt ..) (Result.andThen_halt ..).symm
 | ok d w1 =>
   rw[Result.andThen_ok,Result.andThen_ok];split
   ·rw[Sem.run_pure,Sem.run_pure]
   ·rw[Sem.run_pure,Sem.run_pure]
   ·rw[Sem.run_pure,Sem.run_pure]
theorem Xj:(Go.sizeOf t).run Q w=(Go.sizeOf t).run P w:=by
 unfold Go.sizeOf;rw[Sem.run_bind,Sem.run_bind,jB h];generalize(Go.typeInfo t).run P w=r
 cases r with
 | halt x y=>exact Eq.trans (Result.andThen_halt ..) (Result.andThen_halt ..).symm
 | ok d w1=>rw[Result.andThen_ok,Result.andThen_ok,Sem.run_pure,Sem.run_pure]
theorem Zj:(Go.zeroValue t).run Q w=(Go.zeroValue t).run P w:=by
 unfold Go.zeroValue;rw[Sem.run_bind,Sem.run_bind,jB h];generalize(Go.typeInfo t).run P w=r
 cases r with
 | halt x y=>exact Eq.trans (Result.andThen_halt ..) (Result.andThen_halt ..).symm
 | ok d w1 =>
   rw[Result.andThen_ok,Result.andThen_ok];split
   ·rw[Sem.run_pure,Sem.run_pure]
   ·rfl
theorem qcU:Q.depth=P.depth:=by
 obtain⟨T',f'⟩:=Q;obtain⟨T,f⟩:=P;simp only at h;subst h;rfl
theorem JO:Q.cellsOf t=P.cellsOf t:=by
 obtain⟨T',f'⟩:=Q;obtain⟨T,f⟩:=P;simp only at h;subst h;rfl
theorem JZ:Q.globals=P.globals:=by
 obtain⟨T',f'⟩:=Q;obtain⟨T,f⟩:=P;simp only at h;subst h;rfl
end
theorem enter_of{P:Program}{f:FuncId}{fn:Func}(hf:P.funcs[f]? = some fn)(hname:(fn.name == "runtime.NumGoroutine")=false)(hb:fn.body.isSome=true)(args:Array Value)(w:World) :
 (callFunc f args).run P w=.ok (.enter f args) w:=by
 have h1:fn.name≠ "runtime.NumGoroutine":=by simpa using hname
 obtain⟨c,hc⟩:=Option.isSome_iff_exists.1 hb;simp[callFunc,hf,h1,hc]
end Go.Sim
namespace Go.Proofs.Tryz
open Go Go.Sim
theorem zo:qp.toTables=prog.toTables:=by unfold qp;rfl
@[go_sem] theorem qF (t:TypeId):qp.underlying t=prog.underlying t:=qcz zo _
@[go_sem] theorem qcx (t:TypeId):qp.info? t=prog.info? t:=qae zo _
@[go_sem] theorem src_runUnd (t:TypeId) (w:World):(Go.underlying t).run qp w=(Go.underlying t).run prog w:=Ye zo _ _
@[go_sem] theorem src_runInfo (t:TypeId) (w:World):(Go.typeInfo t).run qp w=(Go.typeInfo t).run prog w:=jB zo _ _
@[go_sem] theorem src_depth:qp.depth=prog.depth:=qcU zo
@[go_sem] theorem src_cellsOf (t:TypeId):qp.cellsOf t=prog.cellsOf t:=JO zo _
@[go_sem] theorem src_globals:qp.globals=prog.globals:=JZ zo
@[go_sem] theorem qX (t:TypeId) (w:World):(Go.isAgg t).run qp w=(Go.isAgg t).run prog w:=Xu zo _ _
@[go_sem] theorem qO (t:TypeId) (w:World):(Go.sizeOf t).run qp w=(Go.sizeOf t).run prog w:=Xj zo _ _
@[go_sem] theorem qE (t:TypeId) (w:World):(Go.zeroValue t).run qp w=(Go.zeroValue t).run prog w:=Zj zo _ _
theorem Zk:qp.funcs[71]? = some qfS:=by kernel_rfl
noncomputable def okF(n:Nat):Bool:=match qp.funcs[n]? with
 | some fn => !(fn.name == "runtime.NumGoroutine")&&fn.body.isSome
 | none=>false
theorem cE(n:Nat)(h1:okF n=true)(args:Array Value)(w:World):(callFunc n args).run qp w=.ok (.enter n args) w:=by
 unfold okF at h1
 cases e:qp.funcs[n]? with
 | none=>rw[e]at h1;cases h1
 | some fn =>
   rw[e]at h1;have h2:=(Bool.and_eq_true _ _).mp h1;exact enter_of e (by simpa using h2.1) h2.2 args w
theorem okF_all:∀n,n<153->n<2\/okF n=true:=by decide +kernel
theorem okF_all2:∀n,n<183->n<170\/okF n=true:=by decide +kernel
@[go_sem] theorem cA (n:Nat) (h0:2<=n) (h:n<153) (args:Array Value) (w:World):(callFunc n args).run qp w=.ok (.enter n args) w:=cE n ((okF_all n h).resolve_left (by omega)) args w
@[go_sem] theorem cB (n:Nat) (h0:170<=n) (h:n<183) (args:Array Value) (w:World):(callFunc n args).run qp w=.ok (.enter n args) w:=cE n ((okF_all2 n h).resolve_left (by omega)) args w
@[go_sem] theorem c168 (args:Array Value) (w:World):(callFunc 168 args).run qp w=.ok (.enter 168 args) w:=cE 168 (by decide +kernel) args w
theorem sf(n:Nat)(f:Func)(h:qp.funcs[n]? = some f:=by kernel_rfl):qp.funcs[n]? = some f:=h
end Go.Proofs.Tryz
section
namespace Go.Load
def btw(n lo hi:Int):Bool:=decide (lo<=n)&&decide (n<=hi)
def lowT(a b:Int):Int:=a/(Int.gcd a b:Int)
def lowB(a b:Int):Int:=b/(Int.gcd a b:Int)
def low(a b:Int):Int×Int:=(lowT a b,lowB a b)
def above(x y:Int×Int):Bool:=decide (y.1*x.2<x.1*y.2)
end Go.Load
end
namespace Go.Load
open Go Go.RowKit
theorem lt_of_cell{W:World}{p:Addr}{v:Value}(hc:W.cell? p=some v):p.block<W.heap.size:=by
 rcases Nat.lt_or_ge p.block W.heap.size with h|h
 ·exact h
 ·unfold World.cell? at hc;rw[Array.getElem?_eq_none h]at hc;cases hc
theorem qb{W w1:World}(p:Addr)(h:Below W.heap.size W w1){v:Value}(hc:W.cell? p=some v):w1.cell? p=some v:=(h.cell (lt_of_cell hc)).trans hc
theorem qf{W w1:World}(p:Addr)(h:Below W.heap.size W w1){v:Value}(hc:W.cell? p=some v)(hf:W.frozen? p=false):w1.frozen? p=false:=(h.frozen (lt_of_cell hc)).trans hf
theorem Below.call{B:Nat}{w W w1:World}(h:Below B w W)(k:Below W.heap.size W w1)(hB:B<=w.heap.size):Below B w w1:=h.trans (k.mono (Nat.le_trans hB h.size))
theorem bcl{w w1 w2:World}(h:Below w.heap.size w w1)(hB:Below w1.heap.size w1 w2):Below w.heap.size w w2:=Below.call h hB ql
theorem qR{w:World}{p q:Addr}{v:Value}(h:(w.cell? q).isSome=true):((w.setCell p v).cell? q).isSome=true:=by
 by_cases e:p=q
 ·subst e;rw[World.cell?_setCell_same' _ _ _ h];rfl
 ·rw[World.cell?_setCell_other _ _ _ _ e];exact h
theorem qA{w:World}{p:Addr}{v:Value}(h:(w.cell? p).isSome=true):(w.setCell p v).cell? p=some v:=World.cell?_setCell_same' _ _ _ h
theorem qG{w:World}{p q:Addr}{u v:Value}(e:p≠q)(h:w.cell? q=some u):(w.setCell p v).cell? q=some u:=(World.cell?_setCell_other _ _ _ _ e).trans h
theorem put2{w1:World}{b:Nat}{u0 u1:Value}(v0 v1:Value)(c0:w1.cell? ⟨b,0,none⟩=some u0)(c1:w1.cell? ⟨b,1,none⟩=some u1) :
 ((w1.setCell ⟨b,0,none⟩ v0).setCell ⟨b,1,none⟩ v1).cell? ⟨b,0,none⟩=some v0/\((w1.setCell ⟨b,0,none⟩ v0).setCell ⟨b,1,none⟩ v1).cell? ⟨b,1,none⟩=some v1:=by
 have h1:(w1.setCell ⟨b,0,none⟩ v0).cell? ⟨b,1,none⟩=some u1:=(World.cell?_setCell_other _ _ _ _ (by simp)).trans c1;exact⟨(World.cell?_setCell_other _ _ _ _ (by simp)).trans (World.cell?_setCell_same' _ _ _ (by rw[c0];rfl)),World.cell?_setCell_same' _ _ _ (by rw[h1];rfl)⟩
theorem qL{w:World}{a:Addr}{v:Value}(h:w.cell? a=some v):(w.cell? a).isSome=true:=by rw[h];rfl
theorem zY{W w1:World}(hb:Below W.heap.size W w1):(∀b o,b<W.heap.size->w1.cell? ⟨b,o,none⟩=W.cell? ⟨b,o,none⟩)/\(∀b o,b<W.heap.size->w1.frozen? ⟨b,o,none⟩=W.frozen? ⟨b,o,none⟩) :=
 ⟨fun b o h=>hb.cell (p:=⟨b,o,none⟩) h,fun b o h=>hb.frozen (p:=⟨b,o,none⟩) h⟩
theorem yO{W:World}{o:Obj}{p:Addr}{v:Value}(h:W.cell? p=some v):(W.alloc o).cell? p=some v:=qb _ ((Below.refl _ W).alloc ql _) h
theorem load_2{P:Program}{ty:TypeId}{w:World}{b o:Nat}{v0 v1:Value}(hA:∀w,(isAgg ty).run P w=.ok true w)(hS:∀w,(Go.sizeOf ty).run P w=.ok 2 w)(k0:w.cell? ⟨b,o,none⟩=some v0)(k1:w.cell? ⟨b,o+1,none⟩=some v1) :
 (loadVar ty ⟨b,o,none⟩).run P w=.ok (.agg #[v0,v1]) w:=by
 unfold loadVar;simp only[Sem.run_bind,hA,hS,Result.andThen_ok,if_true,loadCells,loadCellsFrom,run_load,Addr.add,k0,k1,Sem.run_pure,Option.isSome_none,Bool.false_eq_true,if_false,Nat.zero_add,Nat.add_zero,Nat.one_ne_zero];rfl
theorem qfe{P:Program}{ty:TypeId}{w:World}{b o:Nat}{v0 v1 v2 v3 v4:Value}(hA:∀w,(isAgg ty).run P w=.ok true w)(hS:∀w,(Go.sizeOf ty).run P w=.ok 5 w)(k0:w.cell? ⟨b,o,none⟩=some v0)(k1:w.cell? ⟨b,o+1,none⟩=some v1)
 (k2:w.cell? ⟨b,o+2,none⟩=some v2) (k3:w.cell? ⟨b,o+3,none⟩=some v3) (k4:w.cell? ⟨b,o+4,none⟩=some v4) :
 (loadVar ty ⟨b,o,none⟩).run P w=.ok (.agg #[v0,v1,v2,v3,v4]) w:=by
 unfold loadVar;simp only[Sem.run_bind,hA,hS,Result.andThen_ok,if_true,loadCells,loadCellsFrom,run_load,Addr.add,k0,k1,k2,k3,k4,Sem.run_pure,Option.isSome_none,Bool.false_eq_true,if_false,Nat.zero_add,Nat.add_zero,Nat.one_ne_zero,Nat.reduceAdd,show ¬(2:Nat)=0 by decide,show ¬(3:Nat)=0 by decide,show ¬(4:Nat)=0 by decide];rfl
theorem Zh{P:Program}{fn:Func}{ts:Array Value}{p:Tmp}{ty:TypeId}{w:World}{a:Addr}{v:Value}(h:fn.results=#[.cell p ty])(hp:ts.getD p undef=.pointer (some a))(hl:(loadVar ty a).run P w=.ok v w):(results fn ts).run P w=.ok v w:=by
 unfold results;rw[h];simp only[List.mapM_toArray,List.mapM_cons,List.mapM_nil,hp,asAddr,bind_assoc,pure_bind,map_eq_pure_bind,Sem.run_bind,hl,Result.andThen_ok,Sem.run_pure];rfl
theorem Ql{P:Program}{fn:Func}{ts:Array Value}{p q:Tmp}{ty:TypeId}{w:World}{a:Addr}{v u:Value}(h:fn.results=#[.cell p ty,.tmp q])(hp:ts.getD p undef=.pointer (some a))(hq:ts.getD q undef=u)(hl:(loadVar ty a).run P w=.ok v w):(results fn ts).run P w=.ok (.tuple #[v,u]) w:=by
 unfold results;rw[h];simp only[List.mapM_toArray,List.mapM_cons,List.mapM_nil,hp,hq,asAddr,bind_assoc,pure_bind,map_eq_pure_bind,Sem.run_bind,hl,Result.andThen_ok,Sem.run_pure];rfl
theorem ret_ct2{P:Program}{fn:Func}{R:Ending->World->Prop}{ts:Array Value}{p q:Tmp}{ty:TypeId}{w1:World}{b:Nat}{u0 u1 v0 v1 a:Value}(h:fn.results=#[.cell p ty,.tmp q])(hA:∀w,(isAgg ty).run P w=.ok true w)(hS:∀w,(Go.sizeOf ty).run P w=.ok 2 w)
 (hp:ts.getD p undef=.pointer (some ⟨b,0,none⟩)) (hq:ts.getD q undef=a) (c0:w1.cell? ⟨b,0,none⟩=some u0) (c1:w1.cell? ⟨b,1,none⟩=some u1) (hR:R (.returned (.tuple #[.agg #[v0,v1],a])) ((w1.setCell ⟨b,0,none⟩ v0).setCell ⟨b,1,none⟩ v1)) :
 bodyPost P fn R .ret ⟨ts,[]⟩ ((w1.setCell ⟨b,0,none⟩ v0).setCell ⟨b,1,none⟩ v1) :=
 bodyPost_ret (Ql h hp hq (load_2 hA hS (put2 v0 v1 c0 c1).1 (put2 v0 v1 c0 c1).2)) rfl hR
end Go.Load
