/-
  Lemmas about the program and the machine (PhA to PhK), upon which the last text of this claim rests; no condition.
-/
import Derived.Test.YtnpjncjnmpfgpaaGreatDoorG06
import Derived.Test.YtnpjncjnmpfgpaaGreatDoorG18
set_option linter.unusedSimpArgs false
set_option linter.unusedVariables false
section
namespace Go.Proofs.Tryz
open Go Go.Conc Go.Sim Go.Load Go.RowKit
open Go.ConcN (upd upd_ne upd_same)
theorem YV:qf.funcs[15]? = some YT:=by kernel_rfl
def sT (v:Nat→Value):Array Value:=Array.ofFn (n:=48) (fun i=>v i.1) ++ XA (v 48)
def entV (xs:Array Value) (k:Nat):Value:=if k < 48 then xs.getD k undef else .agg (xs.extract 48 xs.size)
def sb:Frame:=base 15
theorem sb_ne:sb.kind≠.early:=by intro h;cases h
section
variable {v:Nat→Value} {k:Nat} {x:Value} {ds:List Deferred}
theorem qaj (hk:k < 48):(sT v).getD k undef=v k:=by
 simp [sT,Array.getD,Array.getElem_append,hk,Nat.lt_of_lt_of_le hk (Nat.le_add_right 48 _)]
theorem qj (hk:k < 48):Go.Act.eval ⟨sT v,ds⟩ (.tmp k)=v k:=qaj hk
theorem qfv (hk:k < 48):Go.Act.put ⟨sT v,ds⟩ (some k) x=⟨sT (upd v k x),ds⟩:=by
 have e:(sT v).setIfInBounds k x=sT (upd v k x):=by
  unfold sT
  rw [upd_ne _ _ (show (48:Nat)≠k by omega),← qcf hk]
  exact Array.setIfInBounds_append_left (by simpa using hk)
 rw [← e];rfl
theorem sT_ent (xs:Array Value):xs ++ Array.replicate (48 - xs.size) undef=sT (entV xs):=by
 have hs:(sT (entV xs)).size=48+(xs.size - 48):=by simp [sT,entV,XA]
 apply Array.ext
 ·rw [hs];simp;omega
 ·intro i h1 h2
  by_cases h:i < 48
  ·simp [sT,entV,Array.getElem_append,h,Array.getD]
  ·have hx:i < xs.size:=by simp at h1;omega
   simp only [sT,entV,XA,Array.getElem_append,hx,Array.size_ofFn,h,dif_pos,dif_neg,not_false_iff]
   simp only [Nat.lt_irrefl,if_false,Array.getElem_extract]
   congr 1;omega
theorem qfC (xs:Array Value):Frame.enter qf 15 xs .normal=sb.at ⟨sT (entV xs),[]⟩ [.code jS]:=by
 rw [enter_at xs YV (show YT.body=some jS from rfl),show YT.ntmps=48 from rfl,sT_ent];rfl
end
section
variable {K:Cfg} {g:Nat→Bool} {Fin:Goroutine→World→Prop} {q0:Goroutine} {w0 w w1:World} {c:Nat→Bool} {v:Nat→Value} {kk:List Item} {cs:List Frame} {ops:Array Oper} {i:Nat} {rest:List Nat}
abbrev evS (v:Nat→Value):Operand→Value:=Go.Act.eval ⟨sT v,[]⟩
abbrev SD (K:Cfg) (g:Nat→Bool) (Fin:Goroutine→World→Prop) (q0:Goroutine) (w0:World) (v:Nat→Value) (kk:List Item) (cs:List Frame) (w:World):Prop:=Dn K qf g Fin q0 w0 (G (sb.at ⟨sT v,[]⟩ kk) cs) w
theorem SD.val (Z:Cov K qf qf c g (fun _=>False)) (h:SD K g Fin q0 w0 v (.inRegion ops (i :: rest) :: kk) cs w) (o:Oper) (k:Nat) {x:Value} (ho:ops[i]? = some o) (hg:o.guard=none) (hd:o.dst=some k) (hk:k < 48)
 (hr:(execOp (evS v) o).run qf w=.ok (.value x) w1):SD K g Fin q0 w0 (upd v k x) (.inRegion ops rest :: kk) cs w1:=by
 have:=Dn.value Z h ho hg sb_ne hr
 rw [hd,qfv hk] at this
 exact this
theorem SD.no (Z:Cov K qf qf c g (fun _=>False)) (h:SD K g Fin q0 w0 v (.inRegion ops (i :: rest) :: kk) cs w) (o:Oper) (ho:ops[i]? = some o) (hg:o.guard=none) (hd:o.dst=none)
 (hr:(execOp (evS v) o).run qf w=.ok .skip w1):SD K g Fin q0 w0 v (.inRegion ops rest :: kk) cs w1:=by
 have:=Dn.quiet Z h ho hg sb_ne hr
 rw [hd] at this
 exact this
end
section
variable {ev:Operand→Value} {w w1:World} {n:Next} {d:Option Tmp} {t u:TypeId} {x y:Operand}
def Ok (ev:Operand→Value) (o:Oper) (w:World):Prop:=∃n w1,(execOp ev o).run qf w=.ok n w1
theorem ZB (h:Ok ev (op2 d (.binOp .mul t x Jf u) u) w) (hc:ev Jf=.int .i64 1):∃m,ev x=.int .i64 m∧(execOp ev (op2 d (.binOp .mul t x Jf u) u)).run qf w=.ok (.value (.int .i64 (IntKind.i64.wrap m))) w:=by
 obtain ⟨n,w1,h⟩:=h
 unfold execOp op2 at h ⊢
 simp only [hc] at h ⊢
 cases hx:ev x with
 | int k m =>
   rw [hx] at h
   cases k <;> first
    | (refine ⟨m,rfl,?_⟩;go_simp)
    | (exfalso;simp [Go.binOp,eqGuard,stuck] at h)
 | _=>exfalso;rw [hx] at h;simp [Go.binOp,eqGuard,stuck] at h
theorem qeu {T:TypeId}:(execOp ev (op2 d (.call { callee:=.builtin .len,args:=#[x],argTypes:=#[T] }) u)).run qf w=((Builtin.len_ #[T] u #[ev x]).run qf w).andThen fun v w=>.ok (.value v) w:=by
 unfold execOp op2
 simp only [resolve,Sem.run_bind,Sem.run_pure,Result.andThen_ok,invoke,List.map_toArray,List.map_cons,List.map_nil]
 simp only [builtin]
 rw [Sem.run_bind]
 simp only [Sem.run_pure]
theorem ZA {T E:TypeId} (hu:qf.underlying T=some (.slice E)) (h:Ok ev (op2 d (.call { callee:=.builtin .len,args:=#[x],argTypes:=#[T] }) u) w) :
 ∃a l cap,ev x=.slice a l cap∧(execOp ev (op2 d (.call { callee:=.builtin .len,args:=#[x],argTypes:=#[T] }) u)).run qf w=.ok (.value (.int .i64 l)) w:=by
 obtain ⟨n,w1,h⟩:=h
 rw [qeu] at h ⊢
 unfold Builtin.len_ at h ⊢
 cases hx:ev x with
 | slice a l cap=>exact ⟨a,l,cap,rfl,by simp [run_underlying hu,goInt]⟩
 | _=>exfalso;rw [hx] at h;simp [run_underlying hu,stuck] at h
theorem qcY {T:TypeId} (hu:qf.underlying T=some .string) (h:Ok ev (op2 d (.call { callee:=.builtin .len,args:=#[x],argTypes:=#[T] }) u) w) :
 ∃s,ev x=.string s∧(execOp ev (op2 d (.call { callee:=.builtin .len,args:=#[x],argTypes:=#[T] }) u)).run qf w=.ok (.value (.int .i64 s.size)) w:=by
 obtain ⟨n,w1,h⟩:=h
 rw [qeu] at h ⊢
 unfold Builtin.len_ at h ⊢
 cases hx:ev x with
 | string s=>exact ⟨s,rfl,by simp [run_underlying hu,goInt]⟩
 | _=>exfalso;rw [hx] at h;simp [run_underlying hu,stuck] at h
theorem Xu {T E s:TypeId} (hu:qf.underlying T=some (.slice E)) (hs:(sizeOf (qf.elem T)).run qf w=.ok s w) {a:Option Addr} {l cap:Nat} (h:Ok ev (op2 d (.slice T x none (some y) none) u) w) (hx:ev x=.slice a l cap) (hy:ev y=.int .i64 l) :
 l≤cap∧∃r,(execOp ev (op2 d (.slice T x none (some y) none) u)).run qf w=.ok (.value r) w:=by
 obtain ⟨n,w1,h⟩:=h
 unfold execOp op2 at h ⊢
 simp only [hx,hy,Option.map] at h ⊢
 have hel:qf.underlying T=some (.slice (qf.elem T)):=by unfold Program.elem;rw [hu]
 by_cases hc:l≤cap
 ·refine ⟨hc,?_⟩
  rw [Sem.run_bind,run_sliceAt_slice _ _ _ _ _ _ hel,run_slice_h (w:=w) (ht:=hel) (kh:=.i64) (h:=(l:Int)) (h0:=by omega) (h2:=by omega),hs]
  exact ⟨_,rfl⟩
 ·exfalso
  simp [go_sem,Instr.sliceAt,Instr.slice,Instr.sliceBounds,Instr.sliceBound,run_underlying hu,hc,boundsPanic] at h
  split at h <;> cases h
theorem Yb {T:TypeId} (hu:qf.underlying T=some .string) {s:ByteArray} {l:Nat} {c:Value} (h:Ok ev (op2 d (.index T (.const c) y) u) w) (hc:ev (.const c)=.string s) (hy:ev y=.int .i64 l) :
 l < s.size∧∃r,(execOp ev (op2 d (.index T (.const c) y) u)).run qf w=.ok (.value r) w:=by
 obtain ⟨n,w1,h⟩:=h
 unfold execOp op2 at h ⊢
 simp only [hc,hy] at h ⊢
 rw [Sem.run_bind,run_index_string _ T s .i64 l hu] at h ⊢
 by_cases hl:l < s.size
 ·rw [dif_pos (by omega)]
  exact ⟨hl,_,rfl⟩
 ·exfalso
  rw [dif_neg (by omega)] at h
  simp [boundsPanic,go_sem] at h
  split at h <;> cases h
theorem qac {T:TypeId} (hu:qf.underlying T=some .string) {s:ByteArray} {l:Int} {c:Value} (h:Ok ev (op2 d (.index T (.const c) y) u) w) (hc:ev (.const c)=.string s) (hy:ev y=.int .i64 l) :
 (0≤l∧l < s.size)∧∃r,(execOp ev (op2 d (.index T (.const c) y) u)).run qf w=.ok (.value r) w:=by
 obtain ⟨n,w1,h⟩:=h
 unfold execOp op2 at h ⊢
 simp only [hc,hy] at h ⊢
 rw [Sem.run_bind,run_index_string _ T s .i64 l hu] at h ⊢
 by_cases hl:0≤l∧l < s.size
 ·rw [dif_pos hl]
  exact ⟨hl,_,rfl⟩
 ·exfalso
  rw [dif_neg hl] at h
  simp [boundsPanic,go_sem] at h
  split at h <;> cases h
theorem Xt {i:Nat} (h:Ok ev (op2 d (.extract x i) u) w):∃xs z,ev x=.tuple xs∧xs[i]? = some z∧(execOp ev (op2 d (.extract x i) u)).run qf w=.ok (.value z) w:=by
 obtain ⟨n,w1,h⟩:=h
 unfold execOp op2 at h ⊢
 simp only [Sem.run_bind,Instr.extract] at h ⊢
 cases hx:ev x with
 | tuple xs =>
   rw [hx] at h
   simp only at h ⊢
   cases hz:xs[i]? with
   | some z=>exact ⟨xs,z,rfl,hz,by simp⟩
   | none=>exfalso;rw [hz] at h;simp [stuck] at h
 | _=>exfalso;rw [hx] at h;simp [stuck] at h
theorem sub_run {a b:Int} (hx:ev x=.int .i64 a) (hy:ev y=.int .i64 b) (hw:IntKind.i64.wrap (a - b)=a - b):(execOp ev (op2 d (.binOp .sub t x y t) u)).run qf w=.ok (.value (.int .i64 (a - b))) w:=by
 unfold execOp op2;simp only [hx,hy];go_simp
theorem xD {T E:TypeId} {z:Nat} (hu:qf.underlying T=some (.slice E)) (hz:(sizeOf E).run qf w=.ok z w) {a:Option Addr} {l cap i:Nat} (h:Ok ev (op2 d (.indexAddr T x y) u) w) (hx:ev x=.slice a l cap) (hy:ev y=.int .i64 i) :
 i < l∧∃ad,a=some ad∧(execOp ev (op2 d (.indexAddr T x y) u)).run qf w=.ok (.value (.pointer (some (ad.add (i * z))))) w:=by
 obtain ⟨n,w1,h⟩:=h
 unfold execOp op2 at h ⊢
 simp only [hx,hy] at h ⊢
 have hel:qf.elem T=E:=by unfold Program.elem;rw [hu]
 cases a with
 | none =>
   exfalso
   simp [Instr.indexAt,run_underlying hu,asIntOf,boundsPanic,go_sem] at h
   split at h <;> cases h
 | some ad =>
   rw [Sem.run_bind,run_indexAt_slice _ T ad l cap .i64 i (by rw [hel];exact hu),hel,hz] at h ⊢
   by_cases hi:i < l
   ·refine ⟨hi,ad,rfl,?_⟩
    rw [if_pos (by omega)];rfl
   ·exfalso
    rw [if_neg (by omega)] at h
    simp [boundsPanic,go_sem] at h
    split at h <;> cases h
theorem qaG (a:Addr) (i:Nat):(a.add i).block=a.block:=by unfold Addr.add;split <;> rfl
def Near (w:World) (b:Nat):Prop:=∃o o' C D R,w.heap[b]? = some o∧OR C D R o o'
theorem qeO {P:Program} {v:Value} {ad:Addr} (hn:Near w ad.block) (h:(Go.load ad).run P w=.ok v w1):w1=w∧w.cell? ad=some v:=by
 rw [run_load] at h
 cases e:w.cell? ad with
 | some u =>
   rw [e] at h
   simp only [Result.ok.injEq] at h
   exact ⟨h.2.symm,by rw [h.1]⟩
 | none =>
   exfalso
   rw [e] at h
   obtain ⟨o,o',C,D,R,h1,h3⟩:=hn
   unfold World.farLoad at h
   rw [h1] at h
   cases h3 <;> simp at h
theorem qey {P:Program} (m:Nat):∀(i:Nat) (acc:Array Value) {ad:Addr} {v:Array Value} {w w1:World},Near w ad.block→(loadCellsFrom ad i m acc).run P w=.ok v w1→w1=w∧∃l:List Value,l.length=m∧v=acc ++ l.toArray∧∀j (x:Value),l[j]? = some x→w.cell? (ad.add (i+j))=some x:=by
 induction m with
 | zero =>
   intro i acc ad v w w1 hn h
   unfold loadCellsFrom at h
   rw [Sem.run_pure] at h
   cases h
   exact ⟨rfl,[],rfl,by simp,fun j x hx=>by simp at hx⟩
 | succ m ih =>
   intro i acc ad v w w1 hn h
   unfold loadCellsFrom at h
   rw [Sem.run_bind] at h
   cases e:(Go.load (ad.add i)).run P w with
   | halt x y=>rw [e] at h;cases h
   | ok u w2 =>
     rw [e] at h
     obtain ⟨rfl,hc⟩:=qeO (ad:=ad.add i) (by rw [qaG];exact hn) e
     obtain ⟨h1,l,h2,h3,h4⟩:=ih (i+1) (acc.push u) hn h
     refine ⟨h1,u :: l,by simp [h2],by rw [h3];simp,fun j x hx=>?_⟩
     cases j with
     | zero=>simp at hx;subst hx;exact hc
     | succ j=>have:=h4 j x (by simpa using hx);rw [show i+(j+1)=i+1+j by omega];exact this
theorem qeU {T:TypeId} {z:Nat} (ha:(isAgg T).run qf w=.ok true w) (hz:(Go.sizeOf T).run qf w=.ok z w) {ad:Addr} (hn:Near w ad.block) (h:Ok ev (op2 d (.load T x) u) w) (hx:ev x=.pointer (some ad)) :
 ∃l:List Value,l.length=z∧(execOp ev (op2 d (.load T x) u)).run qf w=.ok (.value (.agg l.toArray)) w∧∀j (x:Value),l[j]? = some x→w.cell? (ad.add j)=some x:=by
 obtain ⟨n,w1,h⟩:=h
 have key:(execOp ev (op2 d (.load T x) u)).run qf w=((loadCellsFrom ad 0 z #[]).run qf w).andThen fun c w=>.ok (.value (.agg c)) w:=by
  unfold execOp op2
  simp only [hx,Instr.loadAt,Instr.sureAddr,loadVar,Sem.run_bind,Sem.run_pure,Result.andThen_ok,ha,if_true,hz,loadCells]
  cases (loadCellsFrom ad 0 z #[]).run qf w <;> rfl
 rw [key] at h ⊢
 cases e:(loadCellsFrom ad 0 z #[]).run qf w with
 | halt x y=>rw [e] at h;cases h
 | ok c w2 =>
   obtain ⟨rfl,l,h2,rfl,h4⟩:=qey z 0 #[] hn e
   exact ⟨l,h2,by simp,fun j x hx=>by have:=h4 j x hx;rwa [Nat.zero_add] at this⟩
theorem qdH (ev:Operand→Value) (w:World):(execOp ev (op2 (some 4) (.alloc 26))).run qf w=.ok (.value (.pointer (some ⟨w.heap.size,0,none⟩))) (w.alloc (.cells #[.int .i64 0,.int .i64 0,.int .i64 0,.int .i64 0,.slice none 0 0] 26)):=by
 unfold execOp op2
 go_simp
theorem ok_store {ev:Operand→Value} {w:World} {b:Nat} {kk:Tmp} (h:Ok ev (op2 none (.store 26 (.tmp 4) (.tmp kk))) w) (hp:ev (.tmp 4)=.pointer (some ⟨b,0,none⟩)):∃a b c d e,ev (.tmp kk)=.agg #[a,b,c,d,e]:=by
 obtain ⟨n,w1,h⟩:=h
 unfold execOp op2 at h
 simp only [hp] at h
 by_cases hs:(ev (.tmp kk)).cells.size=5
 ·cases hx:ev (.tmp kk) with
  | agg xs =>
    rw [hx] at hs
    obtain ⟨l⟩:=xs
    simp only [Value.cells,List.size_toArray] at hs
    match l,hs with
    | [a,b,c,d,e],_=>exact ⟨a,b,c,d,e,rfl⟩
  | _=>rw [hx] at hs;simp [Value.cells] at hs
 ·exfalso
  unfold Instr.storeAt storeVar at h
  generalize (ev (.tmp kk)).cells=cs at hs h
  simp [go_sem,hs,stuck,Instr.sureAddr] at h
theorem qfE {ev:Operand→Value} {w:World} {a b c d:Int} {ga:Option Addr} {l cap:Nat} {kk:Tmp} (h4:ev (.tmp 4)=.pointer (some ⟨w.heap.size,0,none⟩)) (h0:ev (.tmp kk)=.agg #[.int .i64 a,.int .i64 b,.int .i64 c,.int .i64 d,.slice ga l cap]):∃w2,(execOp ev (op2 none (.store 26 (.tmp 4) (.tmp kk)))).run qf (w.alloc (.cells #[.int .i64 0,.int .i64 0,.int .i64 0,.int .i64 0,.slice none 0 0] 26))=.ok .skip w2∧Below w.heap.size w w2:=by
 refine ⟨((((((w.alloc (.cells #[.int .i64 0,.int .i64 0,.int .i64 0,.int .i64 0,.slice none 0 0] 26)).setCell ⟨w.heap.size,0,none⟩ (.int .i64 a)).setCell ⟨w.heap.size,1,none⟩ (.int .i64 b)).setCell ⟨w.heap.size,2,none⟩ (.int .i64 c)).setCell ⟨w.heap.size,3,none⟩ (.int .i64 d)).setCell ⟨w.heap.size,4,none⟩ (.slice ga l cap)),?_,?_⟩
 ·unfold execOp op2
  simp only [h4,h0]
  go_simp
 ·go_grown
theorem zR {S T:TypeId} {fs:Array Field} {fd:Field} {k:Nat} (hu:qf.underlying S=some (.struct fs)) (hf:fs[k]? = some fd) (ht:fd.type=T) (ha:(isAgg T).run qf w=.ok false w) (h:Ok ev (op2 d (.field S x k) u) w) :
 ∃cs z,ev x=.agg cs∧cs[fd.offset]? = some z∧(execOp ev (op2 d (.field S x k) u)).run qf w=.ok (.value z) w:=by
 obtain ⟨n,w1,h⟩:=h
 have key:(execOp ev (op2 d (.field S x k) u)).run qf w=((asAgg (ev x)).run qf w).andThen fun cs w=>((part fd.type cs fd.offset).run qf w).andThen fun v w=>.ok (.value v) w:=by
  unfold execOp op2
  simp only [Instr.field,Sem.run_bind,run_underlying hu,Result.andThen_ok,hf]
  cases (asAgg (ev x)).run qf w with
  | halt x y=>rfl
  | ok cs w2=>simp only [Result.andThen];cases (part fd.type cs fd.offset).run qf w2 <;> rfl
 rw [key] at h ⊢
 cases hx:ev x with
 | agg cs =>
   rw [hx] at h
   simp only [asAgg,Sem.run_pure,Result.andThen_ok,part,Sem.run_bind,ht,ha,Bool.false_eq_true,if_false] at h ⊢
   cases hc:cs[fd.offset]? with
   | none=>exfalso;rw [hc] at h;simp [stuck] at h
   | some z=>exact ⟨cs,z,rfl,hc,by simp⟩
 | _=>exfalso;rw [hx] at h;simp [asAgg,stuck] at h
theorem qeT {S T:TypeId} {fs:Array Field} {fd:Field} {k z:Nat} (hu:qf.underlying S=some (.struct fs)) (hf:fs[k]? = some fd) (ht:fd.type=T) (ha:(isAgg T).run qf w=.ok true w) (hz:(Go.sizeOf T).run qf w=.ok z w) {cs:Array Value} (hx:ev x=.agg cs) :
 (execOp ev (op2 d (.field S x k) u)).run qf w=.ok (.value (.agg (cs.extract fd.offset (fd.offset+z)))) w:=by
 unfold execOp op2
 simp only [Instr.field,Sem.run_bind,run_underlying hu,Result.andThen_ok,hf,hx,asAgg,Sem.run_pure,part,ht,ha,if_true,hz]
theorem Zj {a b:Int} (hx:ev x=.int .i64 a) (hy:ev y=.int .i64 b):(execOp ev (op2 d (.binOp .lss t x y t) u)).run qf w=.ok (.value (.bool (decide (a < b)))) w:=by
 unfold execOp op2;simp only [hx,hy];go_simp
theorem qaW {a:Int} (hx:ev x=.int .i64 a) (h1:ev Jf=.int .i64 1) (hw:IntKind.i64.wrap (a+1)=a+1):(execOp ev (op2 d (.binOp .add t x Jf t) u)).run qf w=.ok (.value (.int .i64 (a+1))) w:=by
 unfold execOp op2;simp only [hx,h1];go_simp
theorem ji {z:Value} (hx:ev x=z):(execOp ev (op2 d (.move x) u)).run qf w=.ok (.value z) w:=by
 unfold execOp op2;simp only [hx];go_simp
theorem xO {z:Value} (hx:ev x=z):(execOp ev (op2 d (.assign x) u)).run qf w=.ok (.value z) w:=by
 unfold execOp op2;simp only [hx];go_simp
end
end Go.Proofs.Tryz
end
section
namespace Go.Proofs.Tryz
open Go Go.Conc Go.Sim Go.Load Go.RowKit
open Go.ConcN (upd upd_ne upd_same)
section
variable {K:Cfg} {g c:Nat→Bool} {Fin:Goroutine→World→Prop} {q0:Goroutine} {w0 w:World} {cs:List Frame}
theorem zo {v:Nat→Value}:evS v Jf=.int .i64 1:=rfl
theorem SD.ok {v:Nat→Value} {kk:List Item} {ops:Array Oper} {i:Nat} {rest:List Nat} (Z:Cov K qf qf c g (fun _=>False)) (h:SD K g Fin q0 w0 v (.inRegion ops (i :: rest) :: kk) cs w) (o:Oper) (ho:ops[i]? = some o) (hg:o.guard=none):Ok (evS v) o w:=Dn.ok2 Z h ho hg rfl
theorem QD:qf.underlying 9=some .string:=by rw [qY];exact Tryz.underlying9
theorem YW:qf.underlying 54=some (.slice 23):=by rw [qY];exact Tryz.underlying54
theorem YX:qf.underlying 24=some (.slice 56):=by rw [qY];exact Tryz.underlying24
noncomputable def Zb (t:TypeId):Array Field:=match Tryz.prog.underlying t with | some (.struct fs)=>fs | _=>#[]
theorem XC:qf.underlying 23=some (.struct (Zb 23)):=by rw [qY];kernel_rfl
theorem XD:qf.underlying 56=some (.struct (Zb 56)):=by rw [qY];kernel_rfl
theorem ZG:qf.underlying 26=some (.struct (Zb 26)):=by rw [qY];kernel_rfl
noncomputable def fld (t:TypeId) (k:Nat):Field:=((Zb t)[k]?).getD default
theorem fr0:(Zb 23)[0]? = some (fld 23 0):=by kernel_rfl
theorem fr1:(Zb 23)[1]? = some (fld 23 1):=by kernel_rfl
theorem gr0:(Zb 56)[0]? = some (fld 56 0):=by kernel_rfl
theorem gr1:(Zb 56)[1]? = some (fld 56 1):=by kernel_rfl
theorem gr2:(Zb 56)[2]? = some (fld 56 2):=by kernel_rfl
theorem bk0:(Zb 26)[0]? = some (fld 26 0):=by kernel_rfl
theorem bk1:(Zb 26)[1]? = some (fld 26 1):=by kernel_rfl
theorem bk2:(Zb 26)[2]? = some (fld 26 2):=by kernel_rfl
theorem bk3:(Zb 26)[3]? = some (fld 26 3):=by kernel_rfl
theorem jq:(isAgg 3).run qf w=.ok false w:=by rw [zB];exact Tryz.isAgg3 w
theorem ag_str:(isAgg 9).run qf w=.ok false w:=by rw [zB];exact Tryz.isAgg9 w
theorem ag_frs:(isAgg 54).run qf w=.ok false w:=by rw [zB];exact Tryz.isAgg54 w
theorem ag_grs:(isAgg 24).run qf w=.ok false w:=by rw [zB];exact Tryz.isAgg24 w
theorem ag_fr:(isAgg 23).run qf w=.ok true w:=by rw [zB];exact Tryz.isAgg23 w
theorem ag_gr:(isAgg 56).run qf w=.ok true w:=by rw [zB];exact Tryz.isAgg56 w
theorem qdm:(Go.sizeOf 23).run qf w=.ok 2 w:=by rw [yh];exact Tryz.sizeOf23 w
theorem sz_gr:(Go.sizeOf 56).run qf w=.ok 3 w:=by rw [yh];exact Tryz.sizeOf56 w
theorem el_grs:qf.elem 24=56:=by unfold Program.elem;rw [YX]
theorem el_frs:qf.elem 54=23:=by unfold Program.elem;rw [YW]
section
variable {ev:Operand→Value} {d:Option Tmp} {u:TypeId} {x:Operand} {a b e:Value}
theorem fr_f0 (hx:ev x=.agg #[a,b]) (h:Ok ev (op2 d (.field 23 x 0) u) w):(execOp ev (op2 d (.field 23 x 0) u)).run qf w=.ok (.value a) w:=by
 obtain ⟨cs,z,e1,e2,e3⟩:=zR XC fr0 (T:=3) (by kernel_rfl) jq h
 rw [hx] at e1;cases e1
 rw [show (fld 23 0).offset=0 by kernel_rfl] at e2
 cases e2;exact e3
theorem fr_f1 (hx:ev x=.agg #[a,b]) (h:Ok ev (op2 d (.field 23 x 1) u) w):(execOp ev (op2 d (.field 23 x 1) u)).run qf w=.ok (.value b) w:=by
 obtain ⟨cs,z,e1,e2,e3⟩:=zR XC fr1 (T:=3) (by kernel_rfl) jq h
 rw [hx] at e1;cases e1
 rw [show (fld 23 1).offset=1 by kernel_rfl] at e2
 cases e2;exact e3
theorem gr_f0 (hx:ev x=.agg #[a,b,e]) (h:Ok ev (op2 d (.field 56 x 0) u) w):(execOp ev (op2 d (.field 56 x 0) u)).run qf w=.ok (.value a) w:=by
 obtain ⟨cs,z,e1,e2,e3⟩:=zR XD gr0 (T:=9) (by kernel_rfl) ag_str h
 rw [hx] at e1;cases e1
 rw [show (fld 56 0).offset=0 by kernel_rfl] at e2
 cases e2;exact e3
theorem gr_f1 (hx:ev x=.agg #[a,b,e]) (h:Ok ev (op2 d (.field 56 x 1) u) w):(execOp ev (op2 d (.field 56 x 1) u)).run qf w=.ok (.value b) w:=by
 obtain ⟨cs,z,e1,e2,e3⟩:=zR XD gr1 (T:=3) (by kernel_rfl) jq h
 rw [hx] at e1;cases e1
 rw [show (fld 56 1).offset=1 by kernel_rfl] at e2
 cases e2;exact e3
theorem gr_f2 (hx:ev x=.agg #[a,b,e]) (h:Ok ev (op2 d (.field 56 x 2) u) w):(execOp ev (op2 d (.field 56 x 2) u)).run qf w=.ok (.value e) w:=by
 obtain ⟨cs,z,e1,e2,e3⟩:=zR XD gr2 (T:=54) (by kernel_rfl) ag_frs h
 rw [hx] at e1;cases e1
 rw [show (fld 56 2).offset=2 by kernel_rfl] at e2
 cases e2;exact e3
end
theorem qaZ {α:Type} {l:List α} (h:l.length=2):∃x y,l=[x,y]:=by
 match l,h with
 | [x,y],_=>exact ⟨x,y,rfl⟩
theorem qev {α:Type} {l:List α} (h:l.length=3):∃x y z,l=[x,y,z]:=by
 match l,h with
 | [x,y,z],_=>exact ⟨x,y,z,rfl⟩
theorem wrap_small {n:Int} (h0:0≤n) (h1:n≤1000):IntKind.i64.wrap n=n:=by rw [IntKind.wrap_i64];omega
theorem qbK {b o:Nat} {sp:Option Nat} {n:Nat} {x:Value} (h:w.cell? ((Addr.add ⟨b,o,sp⟩ n).add 0)=some x):w.cell? ⟨b,o+n,none⟩=some x:=by
 rw [show (Addr.add ⟨b,o,sp⟩ n).add 0=Addr.add ⟨b,o,sp⟩ n from rfl] at h
 unfold Addr.add at h
 by_cases hn:n=0
 ·subst hn
  rw [if_pos rfl] at h
  cases sp with
  | none=>exact h
  | some s=>exfalso;unfold World.cell? at h;split at h <;> simp at h
 ·rw [if_neg hn] at h;exact h
theorem Yg {b o:Nat} {sp:Option Nat} {n j:Nat} {x:Value} (hj:j≠0) (h:w.cell? ((Addr.add ⟨b,o,sp⟩ n).add j)=some x):w.cell? ⟨b,o+n+j,none⟩=some x:=by
 unfold Addr.add at h
 rw [if_neg hj] at h
 split at h
 ·subst n;exact h
 ·exact h
theorem qdq (Z:Cov K qf qf c g (fun _=>False)) {kk:List Item} {ta:Option Addr} {len tc:Nat} (hlen:len≤20) (hN:∀ad,ta=some ad→Near w ad.block) :
 ∀(m k:Nat) (v:Nat→Value) (l:List (Int×Int)),k+m=len→l.length=k→(1≤k→∃b o,ta=some ⟨b,o,none⟩∧qL w b o l)→v 26=.slice ta len tc→v 27=.int .i64 len→v 28=.int .i64 k →
  SD K g Fin q0 w0 v (.code sL1 :: .inLoop sL1 :: .inBlock 1 :: kk) cs w →
  ∃(v':Nat→Value) (l':List (Int×Int)),SD K g Fin q0 w0 v' kk cs w∧(∀j,j < 28∨j=41∨j=48→v' j=v j)∧l'.length=len∧(1≤len→∃b o,ta=some ⟨b,o,none⟩∧qL w b o l')
 := by
 intro m
 induction m with
 | zero =>
   intro k v l hk hl hP h26 h27 h28 h
   obtain rfl:k=len:=by omega
   replace h:=(h.seq Z).region Z
   change SD K g Fin q0 w0 v (.inRegion sO4 [0] :: _) cs w at h
   replace h:=h.val Z _ 29 rfl rfl rfl (by decide) (Zj (a:=k) (b:=k) ((qj (by decide)).trans h28) ((qj (by decide)).trans h27))
   replace h:=((h.rend Z).seq Z).cond Z (v:=decide ((k:Int) < k)) ((qj (by decide)).trans (upd_same _ _ _))
   rw [decide_eq_false (Int.lt_irrefl _)] at h
   replace h:=h.exit Z (kk':=kk) rfl
   refine ⟨_,l,h,fun j hj=>upd_ne _ _ (by omega),hl,hP⟩
 | succ m ih =>
   intro k v l hk hl hP h26 h27 h28 h
   replace h:=(h.seq Z).region Z
   change SD K g Fin q0 w0 v (.inRegion sO4 [0] :: _) cs w at h
   replace h:=h.val Z _ 29 rfl rfl rfl (by decide) (Zj (a:=k) (b:=len) ((qj (by decide)).trans h28) ((qj (by decide)).trans h27))
   replace h:=((h.rend Z).seq Z).cond Z (v:=decide ((k:Int) < len)) ((qj (by decide)).trans (upd_same _ _ _))
   rw [decide_eq_true (by omega)] at h
   replace h:=(h.skip Z).region Z
   change SD K g Fin q0 w0 _ (.inRegion sO5 [0,1,2,3,4,5,6,7] :: _) cs w at h
   obtain ⟨_,⟨bt,ot,sp⟩,rfl,hr⟩:=xD (a:=ta) (l:=len) (cap:=tc) (i:=k) YW qdm (h.ok Z _ rfl rfl) ((qj (by decide)).trans (by simp [upd,h26])) ((qj (by decide)).trans (by simp [upd,h28]))
   replace h:=h.val Z _ 30 rfl rfl rfl (by decide) hr
   obtain ⟨xs,hx,hr,hc⟩:=qeU (z:=2) ag_fr qdm (ad:=Addr.add ⟨bt,ot,sp⟩ (k * 2)) (by rw [qaG];exact hN _ rfl) (h.ok Z _ rfl rfl) ((qj (by decide)).trans (upd_same _ _ _))
   replace h:=h.val Z _ 31 rfl rfl rfl (by decide) hr
   obtain ⟨x,y,rfl⟩:=qaZ hx
   have c0:=qbK (hc 0 x rfl)
   have c1:=Yg (by decide) (hc 1 y rfl)
   replace h:=h.val Z _ 34 rfl rfl rfl (by decide) (fr_f0 ((qj (by decide)).trans (upd_same _ _ _)) (h.ok Z _ rfl rfl))
   obtain ⟨m1,e1,hr⟩:=ZB (h.ok Z _ rfl rfl) zo
   replace e1:=(qj (by decide)).symm.trans e1
   simp [upd] at e1
   subst e1
   replace h:=h.val Z _ 35 rfl rfl rfl (by decide) hr
   replace h:=h.val Z _ 36 rfl rfl rfl (by decide) (fr_f1 ((qj (by decide)).trans (by simp [upd];exact ⟨rfl,rfl⟩)) (h.ok Z _ rfl rfl))
   obtain ⟨m2,e2,hr⟩:=ZB (h.ok Z _ rfl rfl) zo
   replace e2:=(qj (by decide)).symm.trans e2
   simp [upd] at e2
   subst e2
   replace h:=h.val Z _ 37 rfl rfl rfl (by decide) hr
   replace h:=h.val Z _ 44 rfl rfl rfl (by decide) (qaW (a:=k) ((qj (by decide)).trans (by simp [upd,h28])) zo (wrap_small (by omega) (by omega)))
   replace h:=h.val Z _ 28 rfl rfl rfl (by decide) (ji ((qj (by decide)).trans (upd_same _ _ _)))
   replace h:=(h.rend Z).again Z
   have hp:∃b o,some (⟨bt,ot,sp⟩:Addr)=some ⟨b,o,none⟩∧qL w b o (l ++ [(m1,m2)]):=by
    have hsp:sp=none:=by
     rcases Nat.eq_zero_or_pos k with rfl | hk1
     ·have:=hc 0 _ rfl
      cases sp with
      | none=>rfl
      | some s=>exfalso;simp [Addr.add] at this;unfold World.cell? at this;split at this <;> simp at this
     ·obtain ⟨b,o,e,_⟩:=hP hk1
      cases e;rfl
    subst hsp
    refine ⟨bt,ot,rfl,fun i x hx=>?_⟩
    rcases Nat.lt_or_ge i l.length with hi | hi
    ·rw [List.getElem?_append_left hi] at hx
     obtain ⟨b,o,e,hq⟩:=hP (by omega)
     cases e
     exact hq i x hx
    ·rw [List.getElem?_append_right hi] at hx
     have h0:i=l.length:=by
      have:=(List.getElem?_eq_some_iff.1 hx).1
      simp at this;omega
     subst h0
     simp at hx;subst hx
     rw [hl]
     exact ⟨c0,c1⟩
   obtain ⟨v',l',g1,g2,g3,g4⟩:=ih (k+1) _ (l ++ [(m1,m2)]) (by omega) (by simp [hl]) (fun _=>hp) (by simp [upd,h26]) (by simp [upd,h27]) (by simp [upd]) h
   refine ⟨v',l',g1,fun j hj=>(g2 j hj).trans ?_,g3,g4⟩
   repeat rw [upd_ne _ _ (by omega)]
structure Nbs (w:World) (Nb:Nat→Prop):Prop where
 near:∀b,Nb b→Near w b
 shut:∀(ad ad':Addr) (l c:Nat),Nb ad.block→w.cell? ad=some (.slice (some ad') l c)→1≤l→Nb ad'.block
theorem qbA (Z:Cov K qf qf c g (fun _=>False)) {Nb:Nat→Prop} (hNb:Nbs w Nb) {kk:List Item} {ga:Option Addr} {n gc:Nat} (hlen:n≤20) (hN:∀ad,ga=some ad→Nb ad.block) :
 ∀(m k:Nat) (v:Nat→Value) (gs:List Grp),k+m=n→gs.length=k→(1≤k→∃b o,ga=some ⟨b,o,none⟩∧zG w b o gs)→(∀g∈gs,yR w g∧(g.traffic.length≤20∧g.name.size≤100)∧1≤g.traffic.length∧∀ad,g.ta=some ad→Nb ad.block)→v 5=.slice ga n gc→v 6=.int .i64 n→v 7=.int .i64 k →
  SD K g Fin q0 w0 v (.code sL0 :: .inLoop sL0 :: .inBlock 0 :: kk) cs w →
  ∃(v':Nat→Value) (gs':List Grp),SD K g Fin q0 w0 v' kk cs w∧(∀j,j < 7∨j=41∨j=48→v' j=v j)∧gs'.length=n∧(1≤n→∃b o,ga=some ⟨b,o,none⟩∧zG w b o gs')∧(∀g∈gs',yR w g∧(g.traffic.length≤20∧g.name.size≤100)∧1≤g.traffic.length∧∀ad,g.ta=some ad→Nb ad.block)
 := by
 intro m
 induction m with
 | zero =>
   intro k v l hk hl hP hT h5 h6 h7 h
   obtain rfl:k=n:=by omega
   replace h:=(h.seq Z).region Z
   change SD K g Fin q0 w0 v (.inRegion sO2 [0] :: _) cs w at h
   replace h:=h.val Z _ 8 rfl rfl rfl (by decide) (Zj (a:=k) (b:=k) ((qj (by decide)).trans h7) ((qj (by decide)).trans h6))
   replace h:=((h.rend Z).seq Z).cond Z (v:=decide ((k:Int) < k)) ((qj (by decide)).trans (upd_same _ _ _))
   rw [decide_eq_false (Int.lt_irrefl _)] at h
   replace h:=h.exit Z (kk':=kk) rfl
   refine ⟨_,l,h,fun j hj=>upd_ne _ _ (by omega),hl,hP,hT⟩
 | succ m ih =>
   intro k v l hk hl hP hT h5 h6 h7 h
   replace h:=(h.seq Z).region Z
   change SD K g Fin q0 w0 v (.inRegion sO2 [0] :: _) cs w at h
   replace h:=h.val Z _ 8 rfl rfl rfl (by decide) (Zj (a:=k) (b:=n) ((qj (by decide)).trans h7) ((qj (by decide)).trans h6))
   replace h:=((h.rend Z).seq Z).cond Z (v:=decide ((k:Int) < n)) ((qj (by decide)).trans (upd_same _ _ _))
   rw [decide_eq_true (by omega)] at h
   replace h:=((h.skip Z).seq Z).region Z
   change SD K g Fin q0 w0 _ (.inRegion sO3 [0,1,2,3,4,5,6,7,8,9,10,11,12] :: _) cs w at h
   obtain ⟨_,⟨bt,ot,sp⟩,rfl,hr⟩:=xD (a:=ga) (l:=n) (cap:=gc) (i:=k) YX sz_gr (h.ok Z _ rfl rfl) ((qj (by decide)).trans (by simp [upd,h5])) ((qj (by decide)).trans (by simp [upd,h7]))
   replace h:=h.val Z _ 20 rfl rfl rfl (by decide) hr
   have hbt:=hN _ rfl
   obtain ⟨xs,hx,hr,hc⟩:=qeU (z:=3) ag_gr sz_gr (ad:=Addr.add ⟨bt,ot,sp⟩ (k * 3)) (by rw [qaG];exact hNb.near _ hbt) (h.ok Z _ rfl rfl) ((qj (by decide)).trans (upd_same _ _ _))
   replace h:=h.val Z _ 21 rfl rfl rfl (by decide) hr
   obtain ⟨x,y,z,rfl⟩:=qev hx
   have c0:=qbK (hc 0 x rfl)
   have c1:=Yg (by decide) (hc 1 y rfl)
   have c2:=Yg (by decide) (hc 2 z rfl)
   replace h:=h.val Z _ 22 rfl rfl rfl (by decide) (gr_f0 ((qj (by decide)).trans (upd_same _ _ _)) (h.ok Z _ rfl rfl))
   obtain ⟨nm,e1,hr⟩:=qcY QD (h.ok Z _ rfl rfl)
   replace e1:=(qj (by decide)).symm.trans e1
   simp [upd] at e1
   subst e1
   replace h:=h.val Z _ 38 rfl rfl rfl (by decide) hr
   obtain ⟨n1,_,hr⟩:=Yb (l:=nm.size) QD (h.ok Z _ rfl rfl) rfl ((qj (by decide)).trans (upd_same _ _ _))
   replace h:=h.val Z _ 39 rfl rfl rfl (by decide) hr
   replace h:=h.val Z _ 24 rfl rfl rfl (by decide) (gr_f1 (a:=.string nm) (b:=y) (e:=z) ((qj (by decide)).trans (by simp [upd])) (h.ok Z _ rfl rfl))
   obtain ⟨m1,e1,hr⟩:=ZB (h.ok Z _ rfl rfl) zo
   replace e1:=(qj (by decide)).symm.trans e1
   simp [upd] at e1
   subst e1
   replace h:=h.val Z _ 25 rfl rfl rfl (by decide) hr
   replace h:=h.val Z _ 26 rfl rfl rfl (by decide) (gr_f2 (a:=.string nm) (b:=.int .i64 m1) (e:=z) ((qj (by decide)).trans (by simp [upd])) (h.ok Z _ rfl rfl))
   obtain ⟨ta,len,tc,e1,hr⟩:=ZA YW (h.ok Z _ rfl rfl)
   replace e1:=(qj (by decide)).symm.trans e1
   simp [upd] at e1
   subst e1
   replace h:=h.val Z _ 27 rfl rfl rfl (by decide) hr
   obtain ⟨_,_,hr⟩:=Xu (T:=54) (s:=2) YW (by rw [el_frs];exact qdm) (a:=ta) (l:=len) (cap:=tc) (h.ok Z _ rfl rfl) ((qj (by decide)).trans (by simp [upd])) ((qj (by decide)).trans (by simp [upd]))
   replace h:=h.val Z _ 32 rfl rfl rfl (by decide) hr
   obtain ⟨n2,_,hr⟩:=Yb (l:=len) QD (h.ok Z _ rfl rfl) rfl ((qj (by decide)).trans (by simp [upd]))
   replace h:=h.val Z _ 33 rfl rfl rfl (by decide) hr
   obtain ⟨n3,adt,et,hr⟩:=xD (a:=ta) (l:=len) (cap:=tc) (i:=0) YW qdm (h.ok Z _ rfl rfl) ((qj (by decide)).trans (by simp [upd])) rfl
   replace h:=h.val Z _ 45 rfl rfl rfl (by decide) hr
   replace h:=h.val Z _ 28 rfl rfl rfl (by decide) (ji rfl)
   replace h:=((h.rend Z).seq Z).block Z
   have n1':nm.size≤100:=Nat.le_of_lt_succ n1
   have n2':len≤20:=Nat.le_of_lt_succ n2
   have hta:∀ad,ta=some ad→Nb ad.block:=fun ad e=>by
    subst e
    exact hNb.shut _ ad len tc (by exact hbt) c2 n3
   obtain ⟨v',tr,g1,g2,g3,g4⟩:=qdq Z (kk:=.code (.region 6 sO6 false) :: .inLoop sL0 :: .inBlock 0 :: kk) n2' (ta:=ta) (tc:=tc) (fun ad e=>hNb.near _ (hta ad e)) len 0 _ [] (by omega) rfl (fun e=>absurd e (by decide)) (by simp [upd]) (by simp [upd]) (by simp [upd];rfl) h
   clear h
   replace h:=g1.region Z
   change SD K g Fin q0 w0 v' (.inRegion sO6 [0,1] :: _) cs w at h
   have f5:=g2 5 (by decide)
   have f6:=g2 6 (by decide)
   have f7:=g2 7 (by decide)
   simp [upd,h5,h6,h7] at f5 f6 f7
   replace h:=h.val Z _ 43 rfl rfl rfl (by decide) (qaW (a:=k) ((qj (by decide)).trans f7) zo (wrap_small (by omega) (by omega)))
   replace h:=h.val Z _ 7 rfl rfl rfl (by decide) (ji ((qj (by decide)).trans (upd_same _ _ _)))
   replace h:=(h.rend Z).again Z
   let gg:Grp:=⟨nm,m1,tr,ta,tc⟩
   have hp:∃b o,some (⟨bt,ot,sp⟩:Addr)=some ⟨b,o,none⟩∧zG w b o (l ++ [gg]):=by
    have hsp:sp=none:=by
     rcases Nat.eq_zero_or_pos k with rfl | hk1
     ·have:=hc 0 _ rfl
      cases sp with
      | none=>rfl
      | some s=>exfalso;simp [Addr.add] at this;unfold World.cell? at this;split at this <;> simp at this
     ·obtain ⟨b,o,e,_⟩:=hP hk1
      cases e;rfl
    subst hsp
    refine ⟨bt,ot,rfl,fun i x hx=>?_⟩
    rcases Nat.lt_or_ge i l.length with hi | hi
    ·rw [List.getElem?_append_left hi] at hx
     obtain ⟨b,o,e,hq⟩:=hP (by omega)
     cases e
     exact hq i x hx
    ·rw [List.getElem?_append_right hi] at hx
     have h0:i=l.length:=by
      have:=(List.getElem?_eq_some_iff.1 hx).1
      simp at this;omega
     subst h0
     simp at hx;subst hx
     rw [hl]
     exact ⟨c0,c1,by rw [g3];exact c2⟩
   have ht:∀g∈l ++ [gg],yR w g∧(g.traffic.length≤20∧g.name.size≤100)∧1≤g.traffic.length∧∀ad,g.ta=some ad→Nb ad.block:=fun g hg=>by
    rcases List.mem_append.1 hg with hg | hg
    ·exact hT g hg
    ·obtain rfl:=List.mem_singleton.1 hg
     exact ⟨fun h1=>g4 (by rw [← g3];exact h1),⟨by show tr.length≤20;rw [g3];exact n2',n1'⟩,by show 1≤tr.length;rw [g3];exact n3,hta⟩
   obtain ⟨v2,l',k1,k2,k3,k4,k5⟩:=ih (k+1) _ (l ++ [gg]) (by omega) (by simp [hl]) (fun _=>hp) ht (by simp [upd,f5]) (by simp [upd,f6]) (by simp [upd]) h
   refine ⟨v2,l',k1,fun j hj=>(k2 j hj).trans ?_,k3,k4,k5⟩
   rw [upd_ne _ _ (by omega),upd_ne _ _ (by omega),g2 j (by omega)]
   repeat rw [upd_ne _ _ (by omega)]
theorem Nbs.below {Nb:Nat→Prop} {w w2:World} (h:Nbs w Nb) (hlt:∀b,Nb b→b < w.heap.size) (hB:Below w.heap.size w w2):Nbs w2 Nb:=by
 refine ⟨fun b hb=>?_,fun ad ad' l c hb hc hl=>?_⟩
 ·obtain ⟨o,o',C,D,R,h1,h2⟩:=h.near b hb
  exact ⟨o,o',C,D,R,(hB.block b (hlt b hb)).trans h1,h2⟩
 ·refine h.shut ad ad' l c hb ?_ hl
  unfold World.cell? at hc ⊢
  rw [hB.block _ (hlt _ hb)] at hc
  exact hc
theorem SD.box (Z:Cov K qf qf c g (fun _=>False)) {v:Nat→Value} {kk:List Item} {rest:List Nat} {a b c' d:Int} {ga:Option Addr} {l cap:Nat} {tk:Tmp} (htk:tk < 48)
 (h:SD K g Fin q0 w0 v (.inRegion (sSh tk) (12 :: rest) :: kk) cs (w.alloc (.cells #[.int .i64 0,.int .i64 0,.int .i64 0,.int .i64 0,.slice none 0 0] 26))) (h4:v 4=.pointer (some ⟨w.heap.size,0,none⟩)) (h0:v tk=.agg #[.int .i64 a,.int .i64 b,.int .i64 c',.int .i64 d,.slice ga l cap]) :
 ∃w2,Below w.heap.size w w2∧SD K g Fin q0 w0 v (.inRegion (sSh tk) rest :: kk) cs w2:=by
 obtain ⟨w2,hr,hB⟩:=qfE (w:=w) (ev:=evS v) (kk:=tk) ((qj (by decide)).trans h4) ((qj htk).trans h0)
 exact ⟨w2,hB,SD.no Z h _ rfl rfl rfl hr⟩
set_option maxHeartbeats 2000000 in
theorem XE (Z:Cov K qf qf c g (fun _=>False)) {tk:Tmp} (htk:tk < 48) (hk1:tk=0∨tk=41) {v:Nat→Value} {kk:List Item} {id:Nat} (h:SD K g Fin q0 w0 v (.code (.region id (sSh tk) false) :: kk) cs w) :
 ∃(v':Nat→Value) (la lb gr ho:Int) (ga:Option Addr) (n gc:Nat) (w2:World),SD K g Fin q0 w0 v' kk cs w2∧Below w.heap.size w w2∧v tk=.agg #[.int .i64 la,.int .i64 lb,.int .i64 gr,.int .i64 ho,.slice ga n gc]∧v' 5=.slice ga n gc∧v' 6=.int .i64 n∧∀j,j < 4∨18 < j→v' j=v j:=by
 replace h:=h.region Z
 change SD K g Fin q0 w0 _ (.inRegion (sSh tk) [0,1,2,3,4,5,6,7,8,9,10,11,12] :: _) cs w at h
 have hne:∀{j:Nat} {x:Value} {u:Nat→Value},4≤j→j≤18→(∀i,i < 4∨18 < i→u i=v i)→(∀i,i < 4∨18 < i→upd u j x i=v i):=fun h1 h2 hu i hi=>by rw [upd_ne _ _ (by omega)];exact hu i hi
 have ht:tk < 4∨18 < tk:=by rcases hk1 with h | h <;> subst h <;> decide
 have p0:∀i,i < 4∨18 < i→v i=v i:=fun _ _=>rfl
 obtain ⟨zs,z,e1,i2,hr⟩:=zR ZG bk1 (T:=3) (by kernel_rfl) jq (h.ok Z _ rfl rfl)
 replace e1:=(qj htk).symm.trans e1
 rw [show (fld 26 1).offset=2 by kernel_rfl] at i2
 replace h:=h.val Z _ 10 rfl rfl rfl (by decide) hr
 have p1:=hne (x:=z) (show 4≤10 by decide) (by decide) p0
 obtain ⟨gr,e2,hr⟩:=ZB (h.ok Z _ rfl rfl) zo
 replace e2:=(qj (by decide)).symm.trans e2
 simp [upd] at e2
 subst e2
 replace h:=h.val Z _ 11 rfl rfl rfl (by decide) hr
 have p2:=hne (x:=.int .i64 (IntKind.i64.wrap gr)) (show 4≤11 by decide) (by decide) p1
 obtain ⟨zs',z,e1',i3,hr⟩:=zR ZG bk2 (T:=3) (by kernel_rfl) jq (h.ok Z _ rfl rfl)
 replace e1':=(qj htk).symm.trans e1'
 rw [p2 tk ht,e1] at e1'
 cases e1'
 rw [show (fld 26 2).offset=3 by kernel_rfl] at i3
 replace h:=h.val Z _ 12 rfl rfl rfl (by decide) hr
 have p3:=hne (x:=z) (show 4≤12 by decide) (by decide) p2
 obtain ⟨ho,e2,hr⟩:=ZB (h.ok Z _ rfl rfl) zo
 replace e2:=(qj (by decide)).symm.trans e2
 simp [upd] at e2
 subst e2
 replace h:=h.val Z _ 13 rfl rfl rfl (by decide) hr
 have p4:=hne (x:=.int .i64 (IntKind.i64.wrap ho)) (show 4≤13 by decide) (by decide) p3
 replace h:=h.val Z _ 14 rfl rfl rfl (by decide) (qeT ZG bk0 (T:=23) (by kernel_rfl) ag_fr qdm (cs:=zs) ((qj htk).trans ((p4 tk ht).trans e1)))
 rw [show (fld 26 0).offset=0 by kernel_rfl] at h
 have p5:=hne (x:=.agg (zs.extract 0 (0+2))) (show 4≤14 by decide) (by decide) p4
 obtain ⟨zs',z,e1',i0,hr⟩:=zR XC fr0 (T:=3) (by kernel_rfl) jq (h.ok Z _ rfl rfl)
 replace e1':=(qj (by decide)).symm.trans e1'
 simp [upd] at e1'
 subst e1'
 rw [show (fld 23 0).offset=0 by kernel_rfl] at i0
 replace h:=h.val Z _ 15 rfl rfl rfl (by decide) hr
 have p6:=hne (x:=z) (show 4≤15 by decide) (by decide) p5
 obtain ⟨la,e2,hr⟩:=ZB (h.ok Z _ rfl rfl) zo
 replace e2:=(qj (by decide)).symm.trans e2
 simp [upd] at e2
 subst e2
 replace h:=h.val Z _ 16 rfl rfl rfl (by decide) hr
 have p7:=hne (x:=.int .i64 (IntKind.i64.wrap la)) (show 4≤16 by decide) (by decide) p6
 obtain ⟨zs',z,e1',i1,hr⟩:=zR XC fr1 (T:=3) (by kernel_rfl) jq (h.ok Z _ rfl rfl)
 replace e1':=(qj (by decide)).symm.trans e1'
 simp [upd] at e1'
 subst e1'
 rw [show (fld 23 1).offset=1 by kernel_rfl] at i1
 replace h:=h.val Z _ 17 rfl rfl rfl (by decide) hr
 have p8:=hne (x:=z) (show 4≤17 by decide) (by decide) p7
 obtain ⟨lb,e2,hr⟩:=ZB (h.ok Z _ rfl rfl) zo
 replace e2:=(qj (by decide)).symm.trans e2
 simp [upd] at e2
 subst e2
 replace h:=h.val Z _ 18 rfl rfl rfl (by decide) hr
 have p9:=hne (x:=.int .i64 (IntKind.i64.wrap lb)) (show 4≤18 by decide) (by decide) p8
 obtain ⟨zs',z,e1',i4,hr⟩:=zR ZG bk3 (T:=24) (by kernel_rfl) ag_grs (h.ok Z _ rfl rfl)
 replace e1':=(qj htk).symm.trans e1'
 rw [p9 tk ht,e1] at e1'
 cases e1'
 rw [show (fld 26 3).offset=4 by kernel_rfl] at i4
 replace h:=h.val Z _ 5 rfl rfl rfl (by decide) hr
 have p10:=hne (x:=z) (show 4≤5 by decide) (by decide) p9
 obtain ⟨ga,n,gc,e2,hr⟩:=ZA YX (h.ok Z _ rfl rfl)
 replace e2:=(qj (by decide)).symm.trans e2
 simp [upd] at e2
 subst e2
 replace h:=h.val Z _ 6 rfl rfl rfl (by decide) hr
 have p11:=hne (x:=.int .i64 n) (show 4≤6 by decide) (by decide) p10
 replace h:=h.val Z _ 4 rfl rfl rfl (by decide) (qdH _ _)
 have p12:=hne (x:=.pointer (some ⟨w.heap.size,0,none⟩)) (show 4≤4 by decide) (by decide) p11
 obtain ⟨a,b,c',d,e,ez⟩:=ok_store (b:=w.heap.size) (kk:=tk) (h.ok Z _ rfl rfl) ((qj (by decide)).trans (upd_same _ _ _))
 replace ez:=(qj htk).symm.trans ez
 rw [p12 tk ht,e1] at ez
 cases ez
 simp at i0 i1 i2 i3 i4
 subst i0 i1 i2 i3 i4
 obtain ⟨w2,hB,h⟩:=SD.box Z htk h (a:=la) (b:=lb) (c':=gr) (d:=ho) (ga:=ga) (l:=n) (cap:=gc) (upd_same _ _ _) ((p12 tk ht).trans e1)
 exact ⟨_,la,lb,gr,ho,ga,n,gc,w2,h.rend Z,hB,e1,by simp [upd],by simp [upd],p12⟩
set_option maxHeartbeats 2000000 in
theorem qfS (Z:Cov K qf qf c g (fun _=>False)) {Nb:Nat→Prop} (hNb:Nbs w Nb) {v:Nat→Value} {la lb gr ho:Int} {ga:Option Addr} {n gc:Nat} {m:Int} (hx:∀(ad:Addr),ga=some ad→1≤n→Nb ad.block)
 (v5:v 5=.slice ga n gc) (v6:v 6=.int .i64 n) (v1:v 1=.int .i64 m) (h:SD K g Fin q0 w0 v [.code sB1] cs w) :
 ∃(v':Nat→Value) (gs:List Grp),SD K g Fin q0 w0 v' [.code sB2] cs w∧gs.length=n∧m=n∧(∀j,j < 7∨j=41→v' j=v j) ∧
  BookAt w ⟨(la,lb),gr,ho,gs,ga,gc⟩∧1≤n∧(∀ad,ga=some ad→Nb ad.block)∧∀g∈gs,1≤g.traffic.length∧∀ad,g.ta=some ad→Nb ad.block:=by
 replace h:=(h.seq Z).region Z
 change SD K g Fin q0 w0 _ (.inRegion sOl [0,1,2,3,4,5,6] :: _) cs w at h
 obtain ⟨hcap,_,hr⟩:=Xu (T:=24) (s:=3) YX (by rw [el_grs];exact sz_gr) (a:=ga) (l:=n) (cap:=gc) (h.ok Z _ rfl rfl) ((qj (by decide)).trans v5) ((qj (by decide)).trans v6)
 replace h:=h.val Z _ 19 rfl rfl rfl (by decide) hr
 obtain ⟨n2,_,hr⟩:=Yb (l:=n) QD (h.ok Z _ rfl rfl) rfl ((qj (by decide)).trans (by simp [upd,v6]))
 replace h:=h.val Z _ 9 rfl rfl rfl (by decide) hr
 obtain ⟨hm,_,hr⟩:=qac (l:=m) QD (h.ok Z _ rfl rfl) (s:=⟨Array.replicate 21 0⟩) rfl ((qj (by decide)).trans (by simp [upd,v1]))
 have hs21:((⟨Array.replicate 21 0⟩:ByteArray).size:Int)=21:=rfl
 rw [hs21] at hm
 replace h:=h.val Z _ 9 rfl rfl rfl (by decide) hr
 have n2':n≤20:=Nat.le_of_lt_succ n2
 replace h:=h.val Z _ 44 rfl rfl rfl (by decide) (sub_run (a:=m) (b:=n) ((qj (by decide)).trans (by simp [upd,v1])) ((qj (by decide)).trans (by simp [upd,v6])) (by rw [IntKind.wrap_i64];omega))
 obtain ⟨hmn,_,hr⟩:=qac (l:=m - n) QD (h.ok Z _ rfl rfl) (s:=⟨#[0]⟩) rfl ((qj (by decide)).trans (by simp [upd]))
 replace h:=h.val Z _ 9 rfl rfl rfl (by decide) hr
 have hs1:((⟨#[0]⟩:ByteArray).size:Int)=1:=rfl
 rw [hs1] at hmn
 obtain ⟨n3,adt,et,hr⟩:=xD (a:=ga) (l:=n) (cap:=gc) (i:=0) YX sz_gr (h.ok Z _ rfl rfl) ((qj (by decide)).trans (by simp [upd,v5])) rfl
 replace h:=h.val Z _ 45 rfl rfl rfl (by decide) hr
 replace h:=h.val Z _ 7 rfl rfl rfl (by decide) (ji rfl)
 replace h:=((h.rend Z).seq Z).block Z
 obtain ⟨v',gs,g1,g2,g3,g4,g5⟩:=qbA Z hNb n2' (ga:=ga) (gc:=gc) (fun ad e=>hx ad e n3) n 0 _ [] (by omega) rfl (fun e=>absurd e (by decide)) (fun g hg=>by cases hg) (by simp [upd,v5]) (by simp [upd,v6]) (by simp [upd];rfl) h
 refine ⟨v',gs,g1,g3,by omega,fun j hj=>?_,⟨fun hl=>g4 (by rw [← g3];exact hl),fun g hg=>(g5 g hg).1,⟨by show gs.length≤20;rw [g3];exact n2',fun g hg=>(g5 g hg).2.1⟩,by show gs.length≤gc;rw [g3];exact hcap⟩,n3,fun ad e=>hx ad e n3,fun g hg=>(g5 g hg).2.2⟩
 rw [g2 j (by omega),upd_ne _ _ (by omega),upd_ne _ _ (by omega),upd_ne _ _ (by omega),upd_ne _ _ (by omega),upd_ne _ _ (by omega),upd_ne _ _ (by omega),upd_ne _ _ (by omega)]
end
end Go.Proofs.Tryz
end
section
namespace Go.Proofs.Tryz
open Go Go.Conc Go.Sim Go.Load Go.RowKit
open Go.ConcN (upd upd_ne upd_same)
section
variable {K:Cfg} {g c:Nat→Bool} {Fin:Goroutine→World→Prop} {q0:Goroutine} {w0 w:World} {cf:Frame} {cr:List Frame}
theorem Dn.leave2 {P':Program} (Z:Cov K P' P' c g (fun _=>False)) {b:Frame} {T:Array Value} {kk:List Item} {fn:Func} {t u:Nat} (h:Dn K P' g Fin q0 w0 (G (b.at ⟨T,[]⟩ (.code .ret :: kk)) (cf :: cr)) w) (hcr:cr≠[]) (hn:b.kind=.normal) (hf:P'.funcs[b.fn]? = some fn) (hr:fn.results=#[.tmp t,.tmp u]) :
 Dn K P' g Fin q0 w0 (G (cf.finish (.tuple #[T.getD t undef,T.getD u undef])) cr) w:=by
 have h1:=h.step Z zx stepG_ret'
 refine h1.step Z (fun hl=>?_) (stepG_leave hn rfl hf (results_tmp2 hr _ P' w) (events_results_tmp2 hr _ _))
 have:=hl.2.2
 simp only [G,List.cons.injEq] at this
 exact hcr this.2
theorem qcm:qf.funcs[42]? = some f42:=s42
theorem SD.call (Z:Cov K qf qf c g (fun _=>False)) {v:Nat→Value} {kk:List Item} {ops:Array Oper} {i:Nat} {rest:List Nat} (h:SD K g Fin q0 w0 v (.inRegion ops (i :: rest) :: kk) (cf :: cr) w) (o:Oper) (k:Nat) {f:FuncId} {fn:Func} {args:Array Operand} {ats:Array TypeId} {x:Value}
 (ho:ops[i]? = some o) (hg:o.guard=none) (hd:o.dst=some k) (hk:k < 48) (hop:o.op=.call { callee:=.value (.func f),args,argTypes:=ats }) (hf:qf.funcs[f]? = some fn) (hname:(fn.name == "runtime.NumGoroutine")=false) (hb:fn.body.isNone=false)
 (hC:Calls qf f (args.map (evS v)) w fun e w'=>e=.returned x∧Below w.heap.size w w'):∃w',Below w.heap.size w w'∧SD K g Fin q0 w0 (upd v k x) (.inRegion ops rest :: kk) (cf :: cr) w':=by
 obtain ⟨y,w',⟨rfl,hB⟩,h'⟩:=Dn.call Z h (Post:=fun v w'=>v=x∧Below w.heap.size w w') ho hg sb_ne hop hf hname hb (List.cons_ne_nil _ _) (hC.mono fun e w' ⟨e1,e2⟩=>⟨x,e1,rfl,e2⟩)
 rw [hd,qfv hk] at h'
 exact ⟨w',hB,h'⟩
section
variable {ev:Operand→Value} {d:Option Tmp} {u t:TypeId} {x:Operand} {a b:Value} {n:Int}
theorem ext_run0 (hx:ev x=.tuple #[a,b]):(execOp ev (op2 d (.extract x 0) u)).run qf w=.ok (.value a) w:=by
 unfold execOp op2;simp only [hx];go_simp
theorem ext_run1 (hx:ev x=.tuple #[a,b]):(execOp ev (op2 d (.extract x 1) u)).run qf w=.ok (.value b) w:=by
 unfold execOp op2;simp only [hx];go_simp
theorem qeS (hx:ev x=.int .i64 n) (hc:ev (.const (.int .i64 0))=.int .i64 0):(execOp ev (op2 d (.binOp .neq 29 x (.const (.int .i64 0)) 29) u)).run qf w=.ok (.value (.bool (n != 0))) w:=by
 unfold execOp op2;simp only [hx,hc];go_simp
end
section
variable {ev:Operand→Value} {d:Option Tmp} {u:TypeId} {x y:Operand} {n:Nat} {ad:Addr} {m:Int} {z:Value}
theorem qfD (hx:ev x=.pointer (some ad)) (hy:ev y=.int .i64 m) (hc:w.cell? ad=some z) (hf:w.frozen? ad=false):(execOp ev (op2 d (.store 3 x y) u)).run qf w=.ok .skip (w.setCell ad (.int .i64 m)):=by
 unfold execOp op2;simp only [hx,hy];go_simp
theorem addr_run {sb k:Nat} (hx:ev x=.slice (some ⟨sb,0,none⟩) n n) (hy:ev y=.int .i64 k) (hk:k < n):(execOp ev (op2 d (.indexAddr 33 x y) u)).run qf w=.ok (.value (.pointer (some ⟨sb,k,none⟩))) w:=by
 unfold execOp op2;simp only [hx,hy];go_simp
theorem make_run (hx:ev x=.int .i64 n) (hn:n≤1000):(execOp ev (op2 d (.makeSlice 33 x x) u)).run qf w=.ok (.value (.slice (some ⟨w.heap.size,0,none⟩) n n)) (w.alloc (.cells (madeCells #[.int .i64 0] n) 3)):=by
 have hi:qf.info? 3=some ((Tryz.prog.info? 3).getD default):=by rw [yE];kernel_rfl
 have hs:((Tryz.prog.info? 3).getD default).size=1:=by kernel_rfl
 have hby:((Tryz.prog.info? 3).getD default).bytes=8:=by kernel_rfl
 have hz:((Tryz.prog.info? 3).getD default).zero=some (.int .i64 0):=by kernel_rfl
 generalize (Tryz.prog.info? 3).getD default=inf at hi hs hby hz
 have hr:=run_makeSlice (P:=qf) w 33 3 inf (.int .i64 0) (by rw [qY];exact Tryz.underlying33) hi hz .i64 .i64 (n:Int) n (by omega) (by omega) (by rw [hs];omega) (by rw [hby];omega) (by omega)
 rw [hs] at hr
 unfold execOp op2;simp only [hx]
 simp [hr,Value.cells]
end
theorem qdk:qf.funcs[62]? = some f62:=s62
def ZK (B:Bk) (j:Nat):Int:=match B.gs[j]? with | some g=>yP B g | none=>0
theorem qfU (Z:Cov K qf qf c g (fun _=>False)) {kk:List Item} {B:Bk} {wA:World} {sl:Nat} (hV:Valid B) (hsl:wA.heap.size≤sl) (hB:BookAt wA B) :
 ∀(m k:Nat) (v:Nat→Value) (got:List Nat) (w:World),k+m=B.gs.length→(∀j,j < k→j∈got)→v 41=bv B→v 2=.slice (some ⟨sl,0,none⟩) B.gs.length B.gs.length→v 6=.int .i64 B.gs.length→v 7=.int .i64 k→Below wA.heap.size wA w→yC sl B.gs.length (ZK B) got w →
  SD K g Fin q0 w0 v (.code sL2 :: .inLoop sL2 :: .inBlock 2 :: kk) (cf :: cr) w →
  ∃(v':Nat→Value) (w':World),Below wA.heap.size wA w'∧w'.heap[sl]? = some (.cells ((Array.range B.gs.length).map fun j=>.int .i64 (ZK B j)) 3 (0,0))∧v' 2=.slice (some ⟨sl,0,none⟩) B.gs.length B.gs.length∧SD K g Fin q0 w0 v' kk (cf :: cr) w':=by
 intro m
 induction m with
 | zero =>
   intro k v got w hk hgot h41 h2 h6 h7 hBw hF h
   obtain rfl:k=B.gs.length:=by omega
   replace h:=(h.seq Z).region Z
   change SD K g Fin q0 w0 v (.inRegion sO2 [0] :: _) _ w at h
   replace h:=h.val Z _ 8 rfl rfl rfl (by decide) (Zj (a:=B.gs.length) (b:=B.gs.length) ((qj (by decide)).trans h7) ((qj (by decide)).trans h6))
   replace h:=((h.rend Z).seq Z).cond Z (v:=decide ((B.gs.length:Int) < B.gs.length)) ((qj (by decide)).trans (upd_same _ _ _))
   rw [decide_eq_false (Int.lt_irrefl _)] at h
   replace h:=h.exit Z (kk':=kk) rfl
   exact ⟨_,w,hBw,hF.all hgot,by rw [upd_ne _ _ (by decide)];exact h2,h⟩
 | succ m ih =>
   intro k v got w hk hgot h41 h2 h6 h7 hBw hF h
   have hlt:k < B.gs.length:=by omega
   have hl4:=hV.len4
   replace h:=(h.seq Z).region Z
   change SD K g Fin q0 w0 v (.inRegion sO2 [0] :: _) _ w at h
   replace h:=h.val Z _ 8 rfl rfl rfl (by decide) (Zj (a:=k) (b:=B.gs.length) ((qj (by decide)).trans h7) ((qj (by decide)).trans h6))
   replace h:=((h.rend Z).seq Z).cond Z (v:=decide ((k:Int) < B.gs.length)) ((qj (by decide)).trans (upd_same _ _ _))
   rw [decide_eq_true (by omega)] at h
   replace h:=(h.skip Z).region Z
   change SD K g Fin q0 w0 _ (.inRegion sO11 [0,1,2,3,4] :: _) _ w at h
   obtain ⟨gr,hgr⟩:∃gr,B.gs[k]? = some gr:=⟨B.gs[k],by simp [hlt]⟩
   have hfine:FineBk w B:=⟨hB.keep hBw,hV.num.1⟩
   obtain ⟨w',hB',h⟩:=SD.call Z h (sO11[0]) 45 (x:=.int .i64 (yP B gr)) rfl rfl rfl (by decide) rfl qdk (by kernel_rfl) (by kernel_rfl) (by
    have:(#[Operand.tmp 41,.tmp 7]).map (evS (upd v 8 (.bool true)))=#[bv B,.int .i64 k]:=by
     simp only [List.map_toArray,List.map_cons,List.map_nil]
     rw [show evS (upd v 8 (.bool true)) (.tmp 41)=bv B from (qj (by decide)).trans (by rw [upd_ne _ _ (by decide)];exact h41),show evS (upd v 8 (.bool true)) (.tmp 7)=.int .i64 k from (qj (by decide)).trans (by rw [upd_ne _ _ (by decide)];exact h7)]
    rw [this]
    exact YE B k gr hgr w hfine (hV.grp gr (List.mem_of_getElem? hgr)).traf)
   have hBw':Below wA.heap.size wA w':=hBw.trans (hB'.mono hBw.size)
   have hF':yC sl B.gs.length (ZK B) got w':=hF.block (hB'.block _ hF.lt)
   have ea:ZK B k=yP B gr:=by unfold ZK;rw [hgr]
   replace h:=h.val Z _ 46 rfl rfl rfl (by decide) (addr_run (sb:=sl) (n:=B.gs.length) (k:=k) ((qj (by decide)).trans (by simp [upd,h2])) ((qj (by decide)).trans (by simp [upd,h7])) hlt)
   obtain ⟨arr,a1,a2,a3⟩:=id hF'
   have hcell:w'.cell? ⟨sl,k,none⟩=some (.int .i64 (if k∈got then ZK B k else 0)):=by
    unfold World.cell?;rw [a1];exact a3 k hlt
   have hfz:w'.frozen? ⟨sl,k,none⟩=false:=by unfold World.frozen?;rw [a1];simp
   replace h:=SD.no Z h _ rfl rfl rfl (qfD (m:=yP B gr) ((qj (by decide)).trans (upd_same _ _ _)) ((qj (by decide)).trans (by simp [upd])) hcell hfz)
   replace h:=h.val Z _ 47 rfl rfl rfl (by decide) (qaW (a:=k) ((qj (by decide)).trans (by simp [upd,h7])) zo (wrap_small (by omega) (by omega)))
   replace h:=h.val Z _ 7 rfl rfl rfl (by decide) (ji ((qj (by decide)).trans (upd_same _ _ _)))
   replace h:=(h.rend Z).again Z
   rw [← ea] at h
   refine ih (k+1) _ (k :: got) _ (by omega) (fun j hj=>?_) (by simp [upd,h41]) (by simp [upd,h2]) (by simp [upd,h6]) (by simp [upd]) (hBw'.setCell hsl _) (hF'.put hlt) h
   rcases Nat.lt_or_ge j k with hj' | hj'
   ·exact List.mem_cons_of_mem _ (hgot j hj')
   ·obtain rfl:j=k:=by omega
    exact List.mem_cons_self ..
theorem walk_sum (Z:Cov K qf qf c g (fun _=>False)) {v:Nat→Value} {B:Bk} (hV:Valid B) (h:SD K g Fin q0 w0 v [.code sB3] (cf :: cr) w) (hcr:cr≠[]) (v41:v 41=bv B) (v6:v 6=.int .i64 B.gs.length) (hB:BookAt w B) :
 ∃(sl:Nat) (w':World),w.heap.size≤sl∧Below w.heap.size w w'∧w'.heap[sl]? = some (.cells ((Array.range B.gs.length).map fun j=>.int .i64 (ZK B j)) 3 (0,0)) ∧
  Dn K qf g Fin q0 w0 (G (cf.finish (.tuple #[.slice (some ⟨sl,0,none⟩) B.gs.length B.gs.length,.int .i64 0])) cr) w':=by
 have hl4:=hV.len4
 replace h:=(h.seq Z).region Z
 change SD K g Fin q0 w0 _ (.inRegion sO9 [0,1,2] :: _) _ w at h
 replace h:=h.val Z _ 44 rfl rfl rfl (by decide) (make_run (n:=B.gs.length) ((qj (by decide)).trans v6) (by omega))
 replace h:=h.val Z _ 2 rfl rfl rfl (by decide) (xO ((qj (by decide)).trans (upd_same _ _ _)))
 replace h:=h.val Z _ 7 rfl rfl rfl (by decide) (ji rfl)
 replace h:=(((h.rend Z).seq Z).block Z)
 have hBA:Below w.heap.size w (w.alloc (.cells (madeCells #[.int .i64 0] B.gs.length) 3)):=by go_grown
 obtain ⟨v',w',h1,h2,h3,h4⟩:=qfU Z (wA:=w) (sl:=w.heap.size) hV (Nat.le_refl _) hB B.gs.length 0 _ [] _ (by omega) (fun j hj=>absurd hj (Nat.not_lt_zero _)) (by simp [upd,v41]) (by simp [upd]) (by simp [upd,v6]) (by simp [upd];rfl) hBA (by
  refine ⟨madeCells #[.int .i64 0] B.gs.length,?_,size_madeCells _ _,fun j hj=>?_⟩
  ·show (w.heap.push _)[w.heap.size]? = _;simp
  ·simp [madeCells,hj,Nat.mod_one]) h
 replace h:=(h4.seq Z).region Z
 change SD K g Fin q0 w0 _ (.inRegion sO12 [0] :: _) _ w' at h
 replace h:=h.val Z _ 3 rfl rfl rfl (by decide) (xO rfl)
 have:=Dn.leave2 Z (h.rend Z) hcr rfl YV (show YT.results=#[.tmp 2,.tmp 3] by kernel_rfl)
 rw [qaj (by decide),qaj (by decide)] at this
 rw [upd_ne _ _ (by decide),upd_same,h3] at this
 exact ⟨_,w',Nat.le_refl _,h1,h2,this⟩
theorem qfV (Z:Cov K qf qf c g (fun _=>False)) {v:Nat→Value} {B:Bk} (h:SD K g Fin q0 w0 v [.code sB2] (cf :: cr) w) (v41:v 41=bv B) (hB:BookAt w B) (hG:Globs w) :
 ∃(v':Nat→Value) (w':World),Below w.heap.size w w'∧checkN B=0∧(∀j,j < 40→v' j=v j)∧v' 41=bv B∧SD K g Fin q0 w0 v' [.code sB3] (cf :: cr) w':=by
 replace h:=(h.seq Z).region Z
 change SD K g Fin q0 w0 _ (.inRegion sO7 [0,1,2,3] :: _) _ w at h
 obtain ⟨w',hB',h⟩:=SD.call Z h (sO7[0]) 40 (x:=Zm B true) rfl rfl rfl (by decide) rfl qcm (by kernel_rfl) (by kernel_rfl) (by
  have:(#[Operand.tmp 41,.const (.bool true)]).map (evS v)=#[bv B,.bool true]:=by
   simp only [List.map_toArray,List.map_cons,List.map_nil]
   rw [show evS v (.tmp 41)=bv B from (qj (by decide)).trans v41]
   rfl
  rw [this]
  exact yw B true w hB hG)
 have hv:∃a n,Zm B true=.tuple #[a,.int .i64 n]∧n=checkN B∧(checkN B=0→a=bv B):=by
  unfold Zm
  by_cases hc:checkN B=0
  ·rw [if_pos hc,if_pos rfl];exact ⟨_,_,rfl,hc.symm,fun _=>rfl⟩
  ·rw [if_neg hc];exact ⟨_,_,rfl,rfl,fun e=>absurd e hc⟩
 obtain ⟨a,n,e,rfl,ha⟩:=hv
 rw [e] at h
 replace h:=h.val Z _ 41 rfl rfl rfl (by decide) (ext_run0 ((qj (by decide)).trans (upd_same _ _ _)))
 replace h:=h.val Z _ 42 rfl rfl rfl (by decide) (ext_run1 (a:=a) (b:=.int .i64 (checkN B)) ((qj (by decide)).trans (by simp [upd])))
 replace h:=h.val Z _ 43 rfl rfl rfl (by decide) (qeS ((qj (by decide)).trans (upd_same _ _ _)) rfl)
 replace h:=((h.rend Z).seq Z).cond Z ((qj (by decide)).trans (upd_same _ _ _))
 by_cases hc:checkN B=0
 ·refine ⟨upd (upd (upd (upd v 40 (.tuple #[a,.int .i64 (checkN B)])) 41 a) 42 (.int .i64 (checkN B))) 43 (.bool (checkN B != 0)),w',hB',hc,fun j hj=>?_,?_,?_⟩
  ·repeat rw [upd_ne _ _ (by omega)]
  ·simp [upd,ha hc]
  ·rw [show (checkN B != 0)=false by simp [hc]] at h ⊢
   exact h.skip Z
 ·exfalso
  rw [show (checkN B != 0)=true by simp [hc]] at h
  replace h:=h.region Z
  change SD K g Fin q0 w0 _ (.inRegion sO13 [0] :: _) _ w' at h
  obtain ⟨hl,_⟩:=Yb (l:=0) QD (h.ok Z _ rfl rfl) (s:=⟨#[]⟩) rfl rfl
  exact absurd hl (Nat.not_lt_zero _)
theorem qdp (Z:Cov K qf qf c g (fun _=>False)) {v:Nat→Value} {x:Value} (h:SD K g Fin q0 w0 v (.inRegion sOc [2,3,4,5] :: [.code sB0]) (cf :: cr) w) (v40:v 40=x) :
 ∃(xs:Array Value) (y:Value) (al:Int) (v':Nat→Value),x=.tuple xs∧xs[0]? = some y∧xs[1]? = some (.int .i64 al)∧SD K g Fin q0 w0 v' [.code sB0] (cf :: cr) w∧v' 41=y∧v' 42=.int .i64 al∧v' 43=.bool (al != 0)∧∀j,j < 40→v' j=v j:=by
 obtain ⟨xs,y,e1,e2,hr⟩:=Xt (h.ok Z _ rfl rfl)
 replace e1:=(qj (by decide)).symm.trans e1
 replace h:=h.val Z _ 41 rfl rfl rfl (by decide) hr
 obtain ⟨xs',z,e3,e4,hr⟩:=Xt (h.ok Z _ rfl rfl)
 replace e3:=(qj (by decide)).symm.trans e3
 rw [upd_ne _ _ (by decide),e1] at e3
 cases e3
 replace h:=h.val Z _ 42 rfl rfl rfl (by decide) hr
 obtain ⟨al,e5,hr⟩:=ZB (h.ok Z _ rfl rfl) rfl
 replace e5:=(qj (by decide)).symm.trans e5
 rw [upd_same] at e5
 subst e5
 replace h:=h.val Z _ 44 rfl rfl rfl (by decide) hr
 replace h:=h.val Z _ 43 rfl rfl rfl (by decide) (qeS (n:=al) ((qj (by decide)).trans (by simp [upd])) rfl)
 exact ⟨xs,y,al,_,v40.symm.trans e1,e2,e4,h.rend Z,by simp [upd],by simp [upd],by simp [upd],fun j hj=>by repeat rw [upd_ne _ _ (by omega)]⟩
theorem qfT (Z:Cov K qf qf c g (fun _=>False)) {v:Nat→Value} {al:Int} (h:SD K g Fin q0 w0 v [.code (.seq (.cond (.tmp 43) (.seq (.region 8 sO8 false) .ret) .skip) sB1)] (cf :: cr) w) (hcr:cr≠[]) (v2:v 2=.slice none 0 0) (v42:v 42=.int .i64 al) (v43:v 43=.bool (al != 0)) :
 (al≠0→Dn K qf g Fin q0 w0 (G (cf.finish (.tuple #[.slice none 0 0,.int .i64 al])) cr) w)∧(al=0→SD K g Fin q0 w0 v [.code sB1] (cf :: cr) w):=by
 replace h:=(h.seq Z).cond Z ((qj (by decide)).trans v43)
 refine ⟨fun hc=>?_,fun hc=>?_⟩
 ·rw [show (al != 0)=true by simp [hc]] at h
  replace h:=(h.seq Z).region Z
  change SD K g Fin q0 w0 _ (.inRegion sO8 [0] :: _) _ w at h
  replace h:=h.val Z _ 3 rfl rfl rfl (by decide) (xO ((qj (by decide)).trans v42))
  have:=Dn.leave2 Z (h.rend Z) hcr rfl YV (show YT.results=#[.tmp 2,.tmp 3] by kernel_rfl)
  rw [qaj (by decide),qaj (by decide)] at this
  simpa [upd,v2] using this
 ·rw [show (al != 0)=false by simp [hc]] at h
  exact h.skip Z
end
end Go.Proofs.Tryz
end
namespace Go.Proofs.Tryz
open Go Go.Sim Go.Load Go.RowKit
open Classical in
noncomputable def img (R:Nat→Nat→Prop) (b:Nat):Nat:=if h:∃c,R b c then h.choose else b
theorem Yz {R:Nat→Nat→Prop} {b:Nat} (h:∃c,R b c):R b (img R b):=by
 unfold img;rw [dif_pos h];exact h.choose_spec
noncomputable def twA (R:Nat→Nat→Prop) (ad:Addr):Addr:={ ad with block:=img R ad.block }
noncomputable def twG (R:Nat→Nat→Prop) (g:Grp):Grp:={ g with ta:=g.ta.map (twA R) }
noncomputable def twB (R:Nat→Nat→Prop) (B:Bk):Bk:={ B with gs:=B.gs.map (twG R),ga:=B.ga.map (twA R) }
section
variable {K:Cfg} {R:Nat→Nat→Prop} {w w':World}
theorem Xx (h0:W0 K R w w') {ta:Option Addr} {l c:Nat} {x':Value} (hl:1≤l) (h:VR K.C R (.slice ta l c) x'):x'=.slice (ta.map (twA R)) l c:=by
 cases h with
 | snil=>rfl
 | @slice a a' l c ha =>
   obtain ⟨h1,h2,h3⟩:=ha
   have e:a'.block=img R a.block:=h0.fn _ _ _ h1 (Yz ⟨_,h1⟩)
   obtain ⟨b',o',s'⟩:=a'
   simp only at h2 h3 e
   subst h2 h3 e
   rfl
 | zcap=>exact absurd hl (by decide)
theorem _root_.Go.Sim.VR.int_eq' {C:FuncId→Prop} {k:IntKind} {n:Int} {x':Value} (h:VR C R (.int k n) x'):x'=.int k n:=by cases h;rfl
theorem _root_.Go.Sim.VR.string_eq' {C:FuncId→Prop} {s:ByteArray} {x':Value} (h:VR C R (.string s) x'):x'=.string s:=by cases h;rfl
theorem jF (h0:W0 K R w w') {b o:Nat} {v:Value} (hr:∃c,R b c) (hc:w.cell? ⟨b,o,none⟩=some v):∃v',w'.cell? ⟨img R b,o,none⟩=some v'∧VR K.C R v v':=by
 have hwr:WR (K.at 0) R w w':=h0.wr 0 fun i q h=>absurd h (Nat.not_lt_zero _)
 exact hwr.cell (a:=⟨b,o,none⟩) (a':=⟨img R b,o,none⟩) ⟨Yz hr,rfl,rfl⟩ hc
structure Twins (R:Nat→Nat→Prop) (B:Bk):Prop where
 len:1≤B.gs.length
 ga:∀ad,B.ga=some ad→∃c,R ad.block c
 ta:∀g∈B.gs,1≤g.traffic.length∧∀ad,g.ta=some ad→∃c,R ad.block c
def BkB (B:Bk) (c:Nat):Prop:=(∃o,B.ga=some ⟨c,o,none⟩)∨∃g∈B.gs,∃o,g.ta=some ⟨c,o,none⟩
theorem Xv (h0:W0 K R w w') {b o:Nat} {l:List (Int×Int)} (hr:∃c,R b c) (h:qL w b o l):qL w' (img R b) o l:=fun i x hx=>by
 obtain ⟨c1,c2⟩:=h i x hx
 obtain ⟨v1,e1,r1⟩:=jF h0 hr c1
 obtain ⟨v2,e2,r2⟩:=jF h0 hr c2
 exact ⟨r1.int_eq'▸e1,r2.int_eq'▸e2⟩
theorem qfO (h0:W0 K R w w') {g:Grp} (h:yR w g) (hr:∀ad,g.ta=some ad→∃c,R ad.block c):yR w' (twG R g):=fun hl=>by
 obtain ⟨b,o,e,hp⟩:=h hl
 exact ⟨img R b,o,by show g.ta.map (twA R)=_;rw [e];rfl,Xv h0 (hr _ e) hp⟩
theorem Xm (h0:W0 K R w w') {b o:Nat} {l:List Grp} (hln:∀g∈l,1≤g.traffic.length) (hr:∃c,R b c) (h:zG w b o l):zG w' (img R b) o (l.map (twG R)):=fun i g' hg'=>by
 rw [List.getElem?_map] at hg'
 obtain ⟨g,hg,rfl⟩:=Option.map_eq_some_iff.1 hg'
 obtain ⟨c1,c2,c3⟩:=h i g hg
 obtain ⟨v1,e1,r1⟩:=jF h0 hr c1
 obtain ⟨v2,e2,r2⟩:=jF h0 hr c2
 obtain ⟨v3,e3,r3⟩:=jF h0 hr c3
 exact ⟨r1.string_eq'▸e1,r2.int_eq'▸e2,Xx h0 (hln g (List.mem_of_getElem? hg)) r3▸e3⟩
theorem Yk (h0:W0 K R w w') {B:Bk} (hT:Twins R B) (hB:BookAt w B):BookAt w' (twB R B):=by
 refine ⟨fun hl=>?_,fun g' hg'=>?_,⟨by show (B.gs.map _).length≤20;rw [List.length_map];exact hB.small.1,fun g' hg'=>?_⟩,by show (B.gs.map _).length≤B.gc;rw [List.length_map];exact hB.cap⟩
 ·obtain ⟨b,o,e,hc⟩:=hB.row hT.len
  exact ⟨img R b,o,by show B.ga.map (twA R)=_;rw [e];rfl,Xm h0 (fun g hg=>(hT.ta g hg).1) (hT.ga _ e) hc⟩
 ·obtain ⟨g,hg,rfl⟩:=List.mem_map.1 hg'
  exact qfO h0 (hB.traf g hg) (hT.ta g hg).2
 ·obtain ⟨g,hg,rfl⟩:=List.mem_map.1 hg'
  exact hB.small.2 g hg
theorem val_twin (h0:W0 K R w w') {B:Bk} {x':Value} (hl:1≤B.gs.length) (h:VR K.C R (bv B) x'):x'=bv (twB R B):=by
 unfold bv at h
 cases h with
 | @agg xs xs' hs he =>
   have hs':xs'.size=5:=hs.symm
   obtain ⟨l⟩:=xs'
   match l,hs' with
   | [a,b,c,d,e],_ =>
     have e0:=(he 0 _ a rfl rfl).int_eq'
     have e1:=(he 1 _ b rfl rfl).int_eq'
     have e2:=(he 2 _ c rfl rfl).int_eq'
     have e3:=(he 3 _ d rfl rfl).int_eq'
     have e4:=Xx h0 hl (he 4 _ e rfl rfl)
     subst e0 e1 e2 e3 e4
     simp [bv,twB]
theorem qfx (R:Nat→Nat→Prop) (l:List Grp):zI l (l.map (twG R)):=⟨by simp,fun i g g' h h'=>by
 rw [List.getElem?_map,h] at h'
 cases h'
 exact ⟨rfl,rfl,rfl⟩⟩
theorem qcz (B:Bk):checkN (twB R B)=checkN B:=Yq (qfx R B.gs) _ _
theorem qcW (B:Bk) (g:Grp):yP (twB R B) (twG R g)=yP B g:=rfl
def BKs (B':Bk) (G:Nat→Prop) (c:Nat):Prop:=BkB B' c∧¬ G c
structure GlobIn (K:Cfg) (G:Nat→Prop) (C1:FuncId→Prop) (D1:FuncId→Code→Prop):Prop where
 fz:∀b,G b→∃c e hi,K.bs[b]? = some (.cells c e (0,hi))∧c.size≤hi
 rel:∀b,G b→∃o o',K.bs[b]? = some o∧K.bt[b]? = some o'∧OR C1 D1 (fun b c=>b=c∧G b) o o'
inductive Plain (Bq:Nat→Prop):Value→Value→Prop
 | int (n:Int):Plain Bq (.int .i64 n) (.int .i64 n)
 | str (s:ByteArray):Plain Bq (.string s) (.string s)
 | slice (a:Addr) (c o l cp:Nat):Bq c→Plain Bq (.slice (some a) l cp) (.slice (some ⟨c,o,none⟩) l cp)
theorem YY (h0:W0 K R w w') {B':Bk} {G:Nat→Prop} {C1:FuncId→Prop} {D1:FuncId→Code→Prop} (hK:GlobIn K G C1 D1) (hG:∀b,G b→R b b∧w.heap[b]? = K.bs[b]?∧w'.heap[b]? = K.bt[b]?) {b o:Nat} {x x':Value} (hr:∃c,R b c) (hb:BkB B' (img R b)) (hx:w.cell? ⟨b,o,none⟩=some x) (hx':w'.cell? ⟨img R b,o,none⟩=some x')
 (hp:Plain (BkB B') x x'):(yL (BKs B' G) G K.bs w').cell? ⟨img R b,o,none⟩=some x':=by
 by_cases hg:G (img R b)
 ·have e:b=img R b:=h0.inj _ _ _ (Yz hr) (hG _ hg).1
  obtain ⟨_,g1,g2⟩:=hG _ hg
  obtain ⟨o1,o2,e1,e2,hOR⟩:=hK.rel _ hg
  have hlt:img R b < w'.heap.size:=by
   rw [e2] at g2;exact (Array.getElem?_eq_some_iff.1 g2).1
  have hs:=yg (BK:=BKs B' G) (w:=w') hlt hg e1
  have hxw:w.cell? ⟨img R b,o,none⟩=some x:=by rw [← e];exact hx
  have hxs:(yL (BKs B' G) G K.bs w').cell? ⟨img R b,o,none⟩=some x:=by
   unfold World.cell? at hxw ⊢
   rw [hs]
   rw [g1,e1] at hxw
   exact hxw
  rw [hxs]
  have hv:VR C1 (fun b c=>b=c∧G b) x x':=by
   unfold World.cell? at hxw hx'
   simp only [g1,e1] at hxw
   simp only [g2,e2] at hx'
   cases hOR with
   | cells e a f =>
     simp at hxw hx'
     exact a.el _ _ _ hxw hx'
   | _=>simp at hxw
  cases hp with
  | int n=>rfl
  | str s=>rfl
  | slice a c o l cp hc =>
    cases hv with
    | slice l c ha =>
      obtain ⟨⟨h1,_⟩,h2,h3⟩:=ha
      obtain ⟨ab,ao,asp⟩:=a
      simp only at h1 h2 h3
      subst h1 h2 h3
      rfl
    | zcap=>rfl
 ·rw [Xy hx' ⟨hb,hg⟩ hg]
  cases hp with
  | int n=>rw [pl_int]
  | str s=>rw [pl_string]
  | slice a c o l cp hc =>
    rw [qcg]
    by_cases hgc:G c
    ·exact .inr hgc
    ·exact .inl ⟨hc,hgc⟩
theorem ws_book (h0:W0 K R w w') {B:Bk} (hT:Twins R B) (hB:BookAt w B) {G:Nat→Prop} {C1:FuncId→Prop} {D1:FuncId→Code→Prop} (hK:GlobIn K G C1 D1) (hG:∀b,G b→R b b∧w.heap[b]? = K.bs[b]?∧w'.heap[b]? = K.bt[b]?) :
 BookAt (yL (BKs (twB R B) G) G K.bs w') (twB R B):=by
 have hB':=Yk h0 hT hB
 have hta:∀g∈B.gs,∃b o,g.ta=some ⟨b,o,none⟩∧qL w b o g.traffic:=fun g hg=>hB.traf g hg (hT.ta g hg).1
 have bt:∀g∈B.gs,∀b o,g.ta=some ⟨b,o,none⟩→BkB (twB R B) (img R b):=fun g hg b o e=>.inr ⟨twG R g,List.mem_map_of_mem hg,o,by show g.ta.map (twA R)=_;rw [e];rfl⟩
 have pr:∀b o (l:List (Int×Int)),(∃c,R b c)→BkB (twB R B) (img R b)→qL w b o l→qL (yL (BKs (twB R B) G) G K.bs w') (img R b) o l:=fun b o l hr hb hp i x hx=>by
  obtain ⟨c1,c2⟩:=hp i x hx
  obtain ⟨d1,d2⟩:=Xv h0 hr hp i x hx
  exact ⟨YY h0 hK hG hr hb c1 d1 (.int _),YY h0 hK hG hr hb c2 d2 (.int _)⟩
 refine ⟨fun _=>?_,fun g' hg' _=>?_,hB'.small,hB'.cap⟩
 ·obtain ⟨b,o,e,hc⟩:=hB.row hT.len
  have hr:=hT.ga _ e
  have e':(twB R B).ga=some ⟨img R b,o,none⟩:=by show B.ga.map (twA R)=_;rw [e];rfl
  have hb:BkB (twB R B) (img R b):=.inl ⟨o,e'⟩
  refine ⟨img R b,o,e',fun i g' hg'=>?_⟩
  have hc':=Xm h0 (fun g hg=>(hT.ta g hg).1) hr hc i g' hg'
  have hg2:(B.gs.map (twG R))[i]? = some g':=hg'
  rw [List.getElem?_map] at hg2
  obtain ⟨g,hg,rfl⟩:=Option.map_eq_some_iff.1 hg2
  obtain ⟨c1,c2,c3⟩:=hc i g hg
  obtain ⟨d1,d2,d3⟩:=hc'
  have hm:=List.mem_of_getElem? hg
  obtain ⟨tb,tof,te,_⟩:=hta g hm
  have te':(twG R g).ta=some ⟨img R tb,tof,none⟩:=by show g.ta.map (twA R)=_;rw [te];rfl
  refine ⟨YY h0 hK hG hr hb c1 d1 (.str _),YY h0 hK hG hr hb c2 d2 (.int _),YY h0 hK hG hr hb c3 d3 ?_⟩
  rw [te,te']
  exact .slice _ _ _ _ _ (bt g hm tb tof te)
 ·obtain ⟨g,hg,rfl⟩:=List.mem_map.1 hg'
  obtain ⟨tb,tof,te,hp⟩:=hta g hg
  exact ⟨img R tb,tof,by show g.ta.map (twA R)=_;rw [te];rfl,pr tb tof _ ((hT.ta g hg).2 _ te) (bt g hg tb tof te) hp⟩
theorem bk_cells (h0:W0 K R w w') {B:Bk} (hT:Twins R B) (hB:BookAt w B) {c:Nat} (hc:BkB (twB R B) c):(∃b,R b c)∧∃xs e f,w'.heap[c]? = some (.cells xs e f):=by
 have hB':=Yk h0 hT hB
 have key:∀{o:Nat} {v:Value},w'.cell? ⟨c,o,none⟩=some v→∃xs e f,w'.heap[c]? = some (.cells xs e f):=fun h=>by
  unfold World.cell? at h
  cases e:w'.heap[c]? with
  | none=>rw [e] at h;cases h
  | some ob=>cases ob <;> first | exact ⟨_,_,_,rfl⟩ | (rw [e] at h;cases h)
 rcases hc with ⟨o,e⟩ | ⟨g',hg',o,e⟩
 ·have e':B.ga.map (twA R)=some ⟨c,o,none⟩:=e
  obtain ⟨ad,ha,hd⟩:=Option.map_eq_some_iff.1 e'
  have hr:=Yz (hT.ga ad ha)
  have hcc:c=img R ad.block:=by have:=congrArg Addr.block hd;exact this.symm
  subst hcc
  refine ⟨⟨_,hr⟩,?_⟩
  obtain ⟨b2,o2,e2,hcells⟩:=hB'.row (by show 1≤(B.gs.map _).length;rw [List.length_map];exact hT.len)
  rw [e] at e2;cases e2
  have hl:0 < (twB R B).gs.length:=by show 0 < (B.gs.map _).length;rw [List.length_map];exact hT.len
  exact key (hcells 0 _ (List.getElem?_eq_getElem hl)).1
 ·obtain ⟨g,hg,rfl⟩:=List.mem_map.1 hg'
  have e':g.ta.map (twA R)=some ⟨c,o,none⟩:=e
  obtain ⟨ad,ha,hd⟩:=Option.map_eq_some_iff.1 e'
  have hr:=Yz ((hT.ta g hg).2 ad ha)
  have hcc:c=img R ad.block:=by have:=congrArg Addr.block hd;exact this.symm
  subst hcc
  refine ⟨⟨_,hr⟩,?_⟩
  obtain ⟨b2,o2,e2,hp⟩:=hB'.traf (twG R g) hg' (hT.ta g hg).1
  rw [e] at e2;cases e2
  have hl:0 < g.traffic.length:=(hT.ta g hg).1
  exact key (hp 0 _ (List.getElem?_eq_getElem hl)).1
end
end Go.Proofs.Tryz
namespace Go.Proofs.Tryz
open Go Go.Conc Go.Sim Go.Load Go.RowKit
structure Grounds (K:Cfg) (c0 g:Nat→Bool):Prop where
 z1:∀Fz bs bt,Cov (Yp qf Tryz.prog c0 g Fz bs bt) qf Tryz.prog c0 g (fun _=>False)
 z1s:∀Fz bs bt,Cov (Yp qf qf c0 g Fz bs bt) qf qf c0 g (fun _=>False)
 co:c0 42=true
 cn:c0 62=true
 ng:K.ng=Tryz.prog.globals.size
 fz:∀n,g n=true→K.Fz n
 rel:GlobIn K (fun n=>g n=true) (fun f=>c0 f=true) (fun f x=>Std qf Tryz.prog f∧zH Tryz.prog c0 g x=true)
 relS:∀n,g n=true→∃o,K.bs[n]? = some o∧OR (fun f=>c0 f=true) (fun f x=>Std qf qf f∧zH qf c0 g x=true) (fun b c=>b=c∧g b=true) o o
 globs:∀W:World,(∀n,g n=true→W.heap[n]? = K.bs[n]?)→Globs W
section
variable {K:Cfg} {c0 g:Nat→Bool} {R:Nat→Nat→Prop} {w wA:World} {B:Bk}
abbrev gG (g:Nat→Bool) (n:Nat):Prop:=g n=true
noncomputable abbrev qaw (K:Cfg) (g:Nat→Bool) (R:Nat→Nat→Prop) (B:Bk) (wA:World):World:=yL (BKs (twB R B) (gG g)) (gG g) K.bs wA
abbrev qds (g:Nat→Bool) (R:Nat→Nat→Prop) (B:Bk):Nat→Nat→Prop:=RS (BKs (twB R B) (gG g)) (gG g)
abbrev fzOf (g:Nat→Bool) (R:Nat→Nat→Prop) (B:Bk) (b:Nat):Prop:=BKs (twB R B) (gG g) b∨gG g b
noncomputable abbrev k1Of (K:Cfg) (c0 g:Nat→Bool) (R:Nat→Nat→Prop) (B:Bk) (wA:World):Cfg:=Yp qf Tryz.prog c0 g (fzOf g R B) (qaw K g R B wA).heap wA.heap
noncomputable abbrev k1sOf (K:Cfg) (c0 g:Nat→Bool) (R:Nat→Nat→Prop) (B:Bk) (wA:World):Cfg:=Yp qf qf c0 g (fzOf g R B) (qaw K g R B wA).heap wA.heap
structure Small (K:Cfg) (c0 g:Nat→Bool) (R:Nat→Nat→Prop) (B:Bk) (wA:World):Prop where
 w0:W0 (k1Of K c0 g R B wA) (qds g R B) (qaw K g R B wA) wA
 w0s:W0 (k1sOf K c0 g R B wA) (qds g R B) (qaw K g R B wA) (qaw K g R B wA)
 nd:ym (qaw K g R B wA)
 glob:∀n,g n=true→qds g R B n n
 globs:Globs (qaw K g R B wA)
 book:BookAt (qaw K g R B wA) (twB R B)
 inR:∀b c,qds g R B b c→∃a,R a c
 arg:∀C,VR C (qds g R B) (bv (twB R B)) (bv (twB R B))
theorem small_of (H:Grounds K c0 g) (h0:W0 K R w wA) (hT:Twins R B) (hB:BookAt w B) (hg:∀n,g n=true→R n n∧w.heap[n]? = K.bs[n]?∧wA.heap[n]? = K.bt[n]?):Small K c0 g R B wA:=by
 have hng:Tryz.prog.globals.size≤wA.heap.size:=by rw [← H.ng];exact h0.big'
 have hbk:=fun c (hc:BKs (twB R B) (gG g) c)=>bk_cells h0 hT hB hc.1
 have hle:∀b c,(b=c∧g b=true)→qds g R B b c:=fun b c h=>⟨h.1,.inr h.2⟩
 have hG2:∀n,g n=true→n < wA.heap.size:=fun n hn=>h0.low (hg n hn).1
 have hsg:∀n,g n=true→(qaw K g R B wA).heap[n]? = K.bs[n]? := fun n hn=>by
  obtain ⟨o,o',e1,e2,_⟩:=H.rel.rel n hn
  rw [e1]
  exact yg (hG2 n hn) hn e1
 refine ⟨qck (K:=k1Of K c0 g R B wA) (fun b hb=>(hbk b hb).2) hng (fun b hb=>?_) H.rel.fz (fun b hb=>hb.2) (fun b=>Iff.rfl),Xz (K:=k1sOf K c0 g R B wA) (fun b hb=>(hbk b hb).2) hng (fun b hb=>?_) H.rel.fz (fun b hb=>hb.2) (fun b=>Iff.rfl),YS H.rel.fz,fun n hn=>⟨rfl,.inr hn⟩,H.globs _ hsg,ws_book h0 hT hB H.rel hg,fun b c h=>?_,fun C=>?_⟩
 ·obtain ⟨o,o',e1,e2,e3⟩:=H.rel.rel b hb
  exact ⟨o,o',e1,(hg b hb).2.2.trans e2,e3.mono hle⟩
 ·obtain ⟨o,e1,e2⟩:=H.relS b hb
  exact ⟨hG2 b hb,o,e1,e2.mono hle⟩
 ·obtain ⟨rfl,h | h⟩:=h
  ·exact (hbk b h).1
  ·exact ⟨b,(hg b h).1⟩
 ·have hB':=Yk h0 hT hB
  obtain ⟨b2,o2,e2,_⟩:=hB'.row (by show 1≤(B.gs.map _).length;rw [List.length_map];exact hT.len)
  have hb:BkB (twB R B) b2:=.inl ⟨o2,e2⟩
  have hs:VR C (qds g R B) (.slice (twB R B).ga (twB R B).gs.length (twB R B).gc) (.slice (twB R B).ga (twB R B).gs.length (twB R B).gc):=by
   rw [e2]
   refine .slice _ _ ⟨⟨rfl,?_⟩,rfl,rfl⟩
   by_cases h:g b2=true
   ·exact .inr h
   ·exact .inl ⟨hb,h⟩
  unfold bv
  exact (((((AR.nil.push (.int _ _)).push (.int _ _)).push (.int _ _)).push (.int _ _)).push hs).agg
theorem Small.tree (H:Grounds K c0 g) (h:Small K c0 g R B wA) {f:FuncId} {args:Array Value} {v:Value} (hf:c0 f=true) (ha:∀C,AR C (qds g R B) args args) (hC:∀t,Calls qf f args ((qaw K g R B wA).tp t) fun e w'=>e=.returned v∧Below ((qaw K g R B wA).tp t).heap.size ((qaw K g R B wA).tp t) w') :
 LT qf true (FinP qf fun x _=>x=v) (entryG qf f args [Sim.c0]) (qaw K g R B wA)∧Xk (k1sOf K c0 g R B wA) qf g (entryG qf f args [Sim.c0]) (qaw K g R B wA):=by
 have hself:Xk (k1sOf K c0 g R B wA) qf g (entryG qf f args [Sim.c0]) (qaw K g R B wA):=⟨qds g R B,.mk (FR.enter (H.z1s _ _ _) hf (fun h=>h) (ha _)) (.base rfl),h.w0s,h.nd,h.glob⟩
 exact ⟨LT.of_calls (H.z1s _ _ _) (fun _ _ _ h=>h) hself fun t=>(hC t).mono fun e w' ⟨e1,_⟩=>⟨v,e1,rfl⟩,hself⟩
end
end Go.Proofs.Tryz
section
namespace Go.Proofs.Tryz
open Go Go.Conc Go.Fan
open Go.ConcN (upd)
noncomputable def pO0:Array Oper:=match Zl with | .seq c _=>opsOf c | _=>#[]
noncomputable def pO1:Array Oper:=match Zl with | .seq _ (.seq c _)=>opsOf c | _=>#[]
noncomputable def pO2:Array Oper:=match Zl with | .seq _ (.seq _ (.seq (.seq c _) _))=>opsOf c | _=>#[]
noncomputable def pO3:Array Oper:=match Zl with | .seq _ (.seq _ (.seq (.seq _ (.cond _ (.seq c _) _)) _))=>opsOf c | _=>#[]
noncomputable def pO4:Array Oper:=match Zl with | .seq _ (.seq _ (.seq _ (.seq c _)))=>opsOf c | _=>#[]
noncomputable def pO5:Array Oper:=match Zl with | .seq _ (.seq _ (.seq _ (.seq _ (.seq c _))))=>opsOf c | _=>#[]
noncomputable def pT2:Code:=.seq (.region 4 pO4 false) (.seq (.region 5 pO5 false) Qp)
noncomputable def pT1:Code:=.seq (.seq (.region 2 pO2 false) (.cond (.tmp 15) (.seq (.region 3 pO3 false) .ret) .skip)) pT2
theorem p_body:Zl=.seq (.region 0 pO0 false) (.seq (.region 1 pO1 false) pT1):=by kernel_rfl
noncomputable def pO (r k:Nat):Oper:=((match r with | 0=>pO0 | 1=>pO1 | 2=>pO2 | 3=>pO3 | 4=>pO4 | _=>pO5)[k]?).getD default
theorem p_size0:pO0.size=3:=by kernel_rfl
theorem p_at0_0:pO0[0]? = some (pO 0 0):=by kernel_rfl
theorem p_g0_0:(pO 0 0).guard=none:=by kernel_rfl
theorem p_d0_0:(pO 0 0).dst=some 1:=by kernel_rfl
theorem p_op0_0:(pO 0 0).op=.box 26 (.tmp 0):=by kernel_rfl
theorem p_at0_1:pO0[1]? = some (pO 0 1):=by kernel_rfl
theorem p_g0_1:(pO 0 1).guard=none:=by kernel_rfl
theorem p_d0_1:(pO 0 1).dst=some 2:=by kernel_rfl
theorem p_op0_1:(pO 0 1).op=.assign (.const (.slice none 0 0)):=by kernel_rfl
theorem p_at0_2:pO0[2]? = some (pO 0 2):=by kernel_rfl
theorem p_g0_2:(pO 0 2).guard=none:=by kernel_rfl
theorem p_d0_2:(pO 0 2).dst=some 3:=by kernel_rfl
theorem p_op0_2:(pO 0 2).op=.assign (.const (.int .i64 0)):=by kernel_rfl
theorem p_size1:pO1.size=8:=by kernel_rfl
theorem p_at1_0:pO1[0]? = some (pO 1 0):=by kernel_rfl
theorem p_g1_0:(pO 1 0).guard=none:=by kernel_rfl
theorem p_d1_0:(pO 1 0).dst=some 10:=by kernel_rfl
theorem p_op1_0:(pO 1 0).op=.load 26 (.tmp 1):=by kernel_rfl
theorem qeV:pO1[1]? = some (pO 1 1):=by kernel_rfl
theorem p_g1_1:(pO 1 1).guard=none:=by kernel_rfl
theorem p_d1_1:(pO 1 1).dst=some 11:=by kernel_rfl
theorem p_op1_1:(pO 1 1).op=.call { callee:=.value (.func 42),args:=#[.tmp 10,.const (.bool true)],argTypes:=#[26,4] }:=by kernel_rfl
theorem qeW:pO1[2]? = some (pO 1 2):=by kernel_rfl
theorem p_g1_2:(pO 1 2).guard=none:=by kernel_rfl
theorem p_d1_2:(pO 1 2).dst=some 9:=by kernel_rfl
theorem p_op1_2:(pO 1 2).op=.move (.tmp 11):=by kernel_rfl
theorem qeX:pO1[3]? = some (pO 1 3):=by kernel_rfl
theorem p_g1_3:(pO 1 3).guard=none:=by kernel_rfl
theorem p_d1_3:(pO 1 3).dst=some 12:=by kernel_rfl
theorem p_op1_3:(pO 1 3).op=.extract (.tmp 9) 0:=by kernel_rfl
theorem qeY:pO1[4]? = some (pO 1 4):=by kernel_rfl
theorem p_g1_4:(pO 1 4).guard=none:=by kernel_rfl
theorem p_d1_4:(pO 1 4).dst=some 13:=by kernel_rfl
theorem p_op1_4:(pO 1 4).op=.extract (.tmp 9) 1:=by kernel_rfl
theorem qeZ:pO1[5]? = some (pO 1 5):=by kernel_rfl
theorem p_g1_5:(pO 1 5).guard=none:=by kernel_rfl
theorem p_d1_5:(pO 1 5).dst=some 4:=by kernel_rfl
theorem qfe:(pO 1 5).op=.alloc 67:=by kernel_rfl
theorem qfa:pO1[6]? = some (pO 1 6):=by kernel_rfl
theorem p_g1_6:(pO 1 6).guard=none:=by kernel_rfl
theorem p_d1_6:(pO 1 6).dst=none:=by kernel_rfl
theorem qff:(pO 1 6).op=.store 67 (.tmp 4) (.tmp 12):=by kernel_rfl
theorem qfb:pO1[7]? = some (pO 1 7):=by kernel_rfl
theorem p_g1_7:(pO 1 7).guard=none:=by kernel_rfl
theorem p_d1_7:(pO 1 7).dst=some 3:=by kernel_rfl
theorem p_op1_7:(pO 1 7).op=.assign (.tmp 13):=by kernel_rfl
theorem qfh:pO2.size=2:=by kernel_rfl
theorem qfc:pO2[0]? = some (pO 2 0):=by kernel_rfl
theorem p_g2_0:(pO 2 0).guard=none:=by kernel_rfl
theorem p_d2_0:(pO 2 0).dst=some 14:=by kernel_rfl
theorem p_op2_0:(pO 2 0).op=.move (.tmp 3):=by kernel_rfl
theorem qfd:pO2[1]? = some (pO 2 1):=by kernel_rfl
theorem p_g2_1:(pO 2 1).guard=none:=by kernel_rfl
theorem p_d2_1:(pO 2 1).dst=some 15:=by kernel_rfl
theorem p_op2_1:(pO 2 1).op=.binOp .neq 29 (.tmp 14) (.const (.int .i64 0)) 29:=by kernel_rfl
theorem p_size3:pO3.size=3:=by kernel_rfl
theorem p_at3_0:pO3[0]? = some (pO 3 0):=by kernel_rfl
theorem p_g3_0:(pO 3 0).guard=none:=by kernel_rfl
theorem p_d3_0:(pO 3 0).dst=some 16:=by kernel_rfl
theorem p_op3_0:(pO 3 0).op=.move (.tmp 3):=by kernel_rfl
theorem p_at3_1:pO3[1]? = some (pO 3 1):=by kernel_rfl
theorem p_g3_1:(pO 3 1).guard=none:=by kernel_rfl
theorem p_d3_1:(pO 3 1).dst=some 2:=by kernel_rfl
theorem p_op3_1:(pO 3 1).op=.assign (.const (.slice none 0 0)):=by kernel_rfl
theorem p_at3_2:pO3[2]? = some (pO 3 2):=by kernel_rfl
theorem p_g3_2:(pO 3 2).guard=none:=by kernel_rfl
theorem p_d3_2:(pO 3 2).dst=some 3:=by kernel_rfl
theorem p_op3_2:(pO 3 2).op=.assign (.tmp 16):=by kernel_rfl
theorem p_size4:pO4.size=3:=by kernel_rfl
theorem p_at4_0:pO4[0]? = some (pO 4 0):=by kernel_rfl
theorem p_g4_0:(pO 4 0).guard=none:=by kernel_rfl
theorem p_d4_0:(pO 4 0).dst=some 17:=by kernel_rfl
theorem p_op4_0:(pO 4 0).op=.makeChan 87 (.const (.int .i64 0)):=by kernel_rfl
theorem p_at4_1:pO4[1]? = some (pO 4 1):=by kernel_rfl
theorem p_g4_1:(pO 4 1).guard=none:=by kernel_rfl
theorem p_d4_1:(pO 4 1).dst=some 5:=by kernel_rfl
theorem p_op4_1:(pO 4 1).op=.alloc 87:=by kernel_rfl
theorem p_at4_2:pO4[2]? = some (pO 4 2):=by kernel_rfl
theorem p_g4_2:(pO 4 2).guard=none:=by kernel_rfl
theorem p_d4_2:(pO 4 2).dst=none:=by kernel_rfl
theorem p_op4_2:(pO 4 2).op=.store 87 (.tmp 5) (.tmp 17):=by kernel_rfl
theorem p_size5:pO5.size=1:=by kernel_rfl
theorem p_at5_0:pO5[0]? = some (pO 5 0):=by kernel_rfl
theorem p_g5_0:(pO 5 0).guard=none:=by kernel_rfl
theorem p_d5_0:(pO 5 0).dst=some 6:=by kernel_rfl
theorem qfg:(pO 5 0).op=.alloc 97:=by kernel_rfl
section
variable {ev:Operand→Value} {x y:Value} {n:Int}
theorem z0_1 (h:ev (.const (.slice none 0 0))=x):Yl ev (pO 0 1) x:=fun w=>by
 unfold execOp;rw [p_op0_1];simp only [h];constructor
 ·go_simp
 ·simp [go_sem]
theorem z0_2 (h:ev (.const (.int .i64 0))=x):Yl ev (pO 0 2) x:=fun w=>by
 unfold execOp;rw [p_op0_2];simp only [h];constructor
 ·go_simp
 ·simp [go_sem]
theorem z1_2 (h:ev (.tmp 11)=x):Yl ev (pO 1 2) x:=fun w=>by
 unfold execOp;rw [p_op1_2];simp only [h];constructor
 ·go_simp
 ·simp [go_sem]
theorem z1_3 {xs:Array Value} (h:ev (.tmp 9)=.tuple xs) (hx:xs[0]? = some x):Yl ev (pO 1 3) x:=fun w=>by
 unfold execOp;rw [p_op1_3];simp only [h,Instr.extract,hx];constructor
 ·go_simp
 ·simp [go_sem]
theorem z1_4 {xs:Array Value} (h:ev (.tmp 9)=.tuple xs) (hx:xs[1]? = some y):Yl ev (pO 1 4) y:=fun w=>by
 unfold execOp;rw [p_op1_4];simp only [h,Instr.extract,hx];constructor
 ·go_simp
 ·simp [go_sem]
theorem z1_7 (h:ev (.tmp 13)=x):Yl ev (pO 1 7) x:=fun w=>by
 unfold execOp;rw [p_op1_7];simp only [h];constructor
 ·go_simp
 ·simp [go_sem]
theorem z2_0 (h:ev (.tmp 3)=x):Yl ev (pO 2 0) x:=fun w=>by
 unfold execOp;rw [p_op2_0];simp only [h];constructor
 ·go_simp
 ·simp [go_sem]
theorem z2_1 (h:ev (.tmp 14)=.int .i64 n) (h':ev (.const (.int .i64 0))=.int .i64 0):Yl ev (pO 2 1) (.bool (n != 0)):=fun w=>by
 unfold execOp;rw [p_op2_1];simp only [h,h'];constructor
 ·go_simp
 ·simp [go_sem]
theorem z3_0 (h:ev (.tmp 3)=x):Yl ev (pO 3 0) x:=fun w=>by
 unfold execOp;rw [p_op3_0];simp only [h];constructor
 ·go_simp
 ·simp [go_sem]
theorem z3_1 (h:ev (.const (.slice none 0 0))=x):Yl ev (pO 3 1) x:=fun w=>by
 unfold execOp;rw [p_op3_1];simp only [h];constructor
 ·go_simp
 ·simp [go_sem]
theorem z3_2 (h:ev (.tmp 16)=x):Yl ev (pO 3 2) x:=fun w=>by
 unfold execOp;rw [p_op3_2];simp only [h];constructor
 ·go_simp
 ·simp [go_sem]
end
end Go.Proofs.Tryz
end
section
namespace Go.Proofs.Tryz
open Go Go.Conc Go.Fan Go.Load
open Go.ConcN (upd)
theorem Zp:Tryz.prog.funcs[15]? = some Tryz.f15:=Tryz.func15
theorem qfp:Tryz.prog.funcs[42]? = some Tryz.f42:=Tryz.func42
theorem xN (w:World) (o:Obj):(w.alloc o).heap[w.heap.size]? = some o:=by show (w.heap.push _)[w.heap.size]? = _;simp
theorem alloc_old {w:World} (o:Obj) {b:Nat} (h:b < w.heap.size):(w.alloc o).heap[b]? = w.heap[b]? := by
 show (w.heap.push _)[b]? = _
 rw [Array.getElem?_push,if_neg (by omega)]
theorem XI (w:World) (o:Obj):(w.alloc o).heap.size=w.heap.size+1:=by show (w.heap.push _).size=_;simp
theorem jo {Γ:Ge} {Stop:(Nat→Prop)→Goroutine→World→Prop} {O:Nat→Prop} {w:World} {kk:List Item} {cs:List Frame} {v:Nat→Value} (Q:(Nat→Value)→Prop) (hv:Q v) (h:∀u,Q u→Fan.Way Tryz.prog true Γ false Stop O (G (nb.at ⟨nT u,[]⟩ kk) cs) w):Fan.Way Tryz.prog true Γ false Stop O (G (nb.at ⟨nT v,[]⟩ kk) cs) w:=h v hv
section
variable {Γ:Ge} {W:World} {B:Bk} {cs:List Frame} {cf:Frame} {cr:List Frame}
def StA (W:World) (B:Bk) (cs:List Frame) (_:Nat→Prop) (g:Goroutine) (w':World):Prop :=
 ∃(bb:Nat) (v:Nat→Value),W.heap.size≤bb∧g=G (Frame.enter Tryz.prog 42 #[bv B,.bool true] .normal) (nb.at ⟨nT v,[]⟩ (.inRegion pO1 [1,2,3,4,5,6,7] :: [.code pT1]) :: cs) ∧
  w'.heap[bb]? = some (.cells (bv B).cells 26 (0,0))∧v 1=ptr bb∧v 2=.slice none 0 0
theorem way_a {v:Nat→Value} (v0:v 0=bv B):Fan.Way Tryz.prog true Γ false (StA W B cs) (fun _=>False) (G (nb.at ⟨nT v,[]⟩ [.code Zl]) cs) W:=by
 refine Way.recode p_body ?_
 refine .ctl rfl (fun _=>stepG_seq) ?_
 refine .ctl rfl (fun _=>stepG_region) ?_
 rw [p_size0]
 simp only [List.range,List.range.loop]
 refine .box (z:=bv B) p_at0_0 p_g0_0 qH p_op0_0 (by rw [ql (by decide)];exact v0) fun w₁ h₁=>?_
 rw [p_d0_0,yc (by decide)]
 have hc:=xN w₁ (.cells (bv B).cells 26 (0,0))
 have hsz:=h₁.size
 generalize w₁.alloc (.cells (bv B).cells 26 (0,0))=w₂ at hc ⊢
 generalize w₁.heap.size=bb at hc hsz ⊢
 refine Yl.way (z0_1 rfl) p_at0_1 p_g0_1 qH p_d0_1 (by decide) ?_
 refine Yl.way (z0_2 rfl) p_at0_2 p_g0_2 qH p_d0_2 (by decide) ?_
 refine .ctl rfl (fun _=>stepG_region_end) ?_
 refine .ctl rfl (fun _=>stepG_seq) ?_
 refine .ctl rfl (fun _=>stepG_region) ?_
 rw [p_size1]
 simp only [List.range,List.range.loop]
 refine .loadS (cells:=(bv B).cells) p_at1_0 p_g1_0 qH p_op1_0 (by rw [ql (by decide)];simp [upd]) Tryz.isAgg26 Tryz.sizeOf26 (.inr (.inr rfl)) hc ?_
 rw [p_d1_0,yc (by decide)]
 refine jo (fun u=>u 1=ptr bb∧u 2=.slice none 0 0∧u 10=bv B) ⟨by simp [upd],by simp [upd];rfl,by simp [upd];rfl⟩ fun u ⟨u1,u2,u10⟩=>?_
 refine .enter qeV (by unfold Region.wanted;rw [p_g1_1]) qH p_op1_1 qfp (by kernel_rfl) (by kernel_rfl) ?_
 have e:(#[Operand.tmp 10,.const (.bool true)]).map (Go.Act.eval ⟨nT u,[]⟩)=#[bv B,.bool true]:=by
  simp only [List.map_toArray,List.map_cons,List.map_nil]
  rw [ql (by decide),u10];rfl
 rw [e]
 exact .stop fun w₃ h₃=>⟨bb,u,hsz,rfl,h₃.block (.inr (.inr rfl)) hc,u1,u2⟩
theorem XF {v:Nat→Value} {O:Nat→Prop} {kk:List Item} {x y:Value} (v2:v 2=x) (v3:v 3=y) :
 Fan.Way Tryz.prog true Γ false (fun _ g _=>g=G (cf.finish (.tuple #[x,y])) cr) O (G (nb.at ⟨nT v,[]⟩ (.code .ret :: kk)) (cf :: cr)) W:=by
 refine .ctl rfl (fun _=>stepG_ret') ?_
 refine .ctl rfl (fun w=>stepG_leave rfl rfl Zp (results_tmp2 (show Tryz.f15.results=#[.tmp 2,.tmp 3] by kernel_rfl) _ _ w) (events_results_tmp2 (show Tryz.f15.results=#[.tmp 2,.tmp 3] by kernel_rfl) _ _)) ?_
 refine .stop fun w₁ _=>?_
 show G _ _=G _ _
 rw [qeF (by decide),qeF (by decide),v2,v3]
theorem way_b1 {v:Nat→Value} {bb:Nat} {a0 a1 a2 a3 al:Int} {sa:Option Addr} {l c:Nat} {xs:Array Value} (v11:v 11=.tuple xs) (x0:xs[0]? = some (.agg #[.int .i64 a0,.int .i64 a1,.int .i64 a2,.int .i64 a3,.slice sa l c])) (x1:xs[1]? = some (.int .i64 al)) (hal:al≠0) :
 Fan.Way Tryz.prog true Γ false (fun _ g _=>g=G (cf.finish (.tuple #[.slice none 0 0,.int .i64 al])) cr) (fun _=>False) (G (nb.at ⟨nT v,[]⟩ (.inRegion pO1 [2,3,4,5,6,7] :: [.code pT1])) (cf :: cr)) W:=by
 refine Yl.way (z1_2 (x:=.tuple xs) (by rw [ql (by decide)];exact v11)) qeW p_g1_2 qH p_d1_2 (by decide) ?_
 refine Yl.way (z1_3 (x:=.agg #[.int .i64 a0,.int .i64 a1,.int .i64 a2,.int .i64 a3,.slice sa l c]) (xs:=xs) (by rw [ql (by decide)];simp [upd]) x0) qeX p_g1_3 qH p_d1_3 (by decide) ?_
 refine Yl.way (z1_4 (y:=.int .i64 al) (xs:=xs) (by rw [ql (by decide)];simp [upd]) x1) qeY p_g1_4 qH p_d1_4 (by decide) ?_
 refine jo (fun u=>u 1=v 1∧u 2=v 2∧u 12=.agg #[.int .i64 a0,.int .i64 a1,.int .i64 a2,.int .i64 a3,.slice sa l c]∧u 13=.int .i64 al) ⟨by simp [upd],by simp [upd],by simp [upd],by simp [upd]⟩ fun u ⟨u1,u2,u12,u13⟩=>?_
 refine .alloc qeZ p_g1_5 qH qfe Tryz.zeroValue67 fun w₁ h₁=>?_
 rw [p_d1_5,yc (by decide)]
 have hc:(w₁.alloc (.cells #[.int .i64 0,.int .i64 0,.int .i64 0,.int .i64 0,.slice none 0 0] 67 (0,0))).heap[w₁.heap.size]? = _:=xN w₁ _
 have hsz:=h₁.size
 refine .store5 qfa p_g1_6 qH qff (bk:=w₁.heap.size) (by rw [ql (by decide)];simp [upd]) (by rw [ql (by decide)];simp [upd];exact u12) Tryz.sizeOf67 (.inr rfl) hc fun w₂ w₃ h₂ hA hc'=>?_
 rw [p_d1_6,QA]
 refine Yl.way (z1_7 (x:=.int .i64 al) (by rw [ql (by decide)];simp [upd];exact u13)) qfb p_g1_7 qH p_d1_7 (by decide) ?_
 refine .ctl rfl (fun _=>stepG_region_end) ?_
 unfold pT1
 refine .ctl rfl (fun _=>stepG_seq) ?_
 refine .ctl rfl (fun _=>stepG_seq) ?_
 refine .ctl rfl (fun _=>stepG_region) ?_
 rw [qfh]
 simp only [List.range,List.range.loop]
 refine jo (fun x=>x 1=v 1∧x 2=v 2∧x 3=.int .i64 al∧x 4=ptr w₁.heap.size) ⟨by simp [upd,u1],by simp [upd,u2],by simp [upd],by simp [upd]⟩ fun x ⟨x1,x2,x3,x4⟩=>?_
 refine Yl.way (z2_0 (x:=.int .i64 al) (by rw [ql (by decide)];exact x3)) qfc p_g2_0 qH p_d2_0 (by decide) ?_
 refine Yl.way (z2_1 (n:=al) (by rw [ql (by decide)];simp [upd]) rfl) qfd p_g2_1 qH p_d2_1 (by decide) ?_
 refine .ctl rfl (fun _=>stepG_region_end) ?_
 refine .ctl rfl (fun _=>stepG_cond (t:=(al != 0)) (by rw [ql (by decide)];simp [upd])) ?_
 rw [show (al != 0)=true by simp [hal]]
 refine .ctl rfl (fun _=>stepG_seq) ?_
 refine .ctl rfl (fun _=>stepG_region) ?_
 rw [p_size3]
 simp only [List.range,List.range.loop]
 refine Yl.way (z3_0 (x:=.int .i64 al) (by rw [ql (by decide)];simp [upd,x3])) p_at3_0 p_g3_0 qH p_d3_0 (by decide) ?_
 refine Yl.way (z3_1 rfl) p_at3_1 p_g3_1 qH p_d3_1 (by decide) ?_
 refine Yl.way (z3_2 (x:=.int .i64 al) (by rw [ql (by decide)];simp [upd])) p_at3_2 p_g3_2 qH p_d3_2 (by decide) ?_
 refine .ctl rfl (fun _=>stepG_region_end) ?_
 refine jo (fun x=>x 2=.slice none 0 0∧x 3=.int .i64 al) ⟨by simp [upd];rfl,by simp [upd]⟩ fun x ⟨x2,x3⟩=>?_
 exact XF x2 x3
def StB (W:World) (v:Nat→Value) (cells:Array Value) (cs:List Frame) (_:Nat→Prop) (g:Goroutine) (w':World):Prop :=
 ∃(xb cb ch:Nat) (u:Nat→Value) (e f:Nat×Nat),W.heap.size≤xb∧W.heap.size≤cb∧W.heap.size≤ch∧g=G (nb.at ⟨nT u,[]⟩ (.inRegion pO5 [0] :: [.code Qp])) cs∧u 1=v 1∧u 4=ptr xb∧u 5=ptr cb ∧
  w'.heap[xb]? = some (.cells cells 67 e)∧w'.heap[cb]? = some (.cells #[.chan (some ch)] 87 f)∧w'.heap[ch]? = some (.chan 0 #[] false 0 0 false)
theorem way_b2 {v:Nat→Value} {a0 a1 a2 a3:Int} {sa:Option Addr} {l c:Nat} {xs:Array Value} (v11:v 11=.tuple xs) (x0:xs[0]? = some (.agg #[.int .i64 a0,.int .i64 a1,.int .i64 a2,.int .i64 a3,.slice sa l c])) (x1:xs[1]? = some (.int .i64 0)) :
 Fan.Way Tryz.prog true Γ false (StB W v #[.int .i64 a0,.int .i64 a1,.int .i64 a2,.int .i64 a3,.slice sa l c] cs) (fun _=>False) (G (nb.at ⟨nT v,[]⟩ (.inRegion pO1 [2,3,4,5,6,7] :: [.code pT1])) cs) W:=by
 refine Yl.way (z1_2 (x:=.tuple xs) (by rw [ql (by decide)];exact v11)) qeW p_g1_2 qH p_d1_2 (by decide) ?_
 refine Yl.way (z1_3 (x:=.agg #[.int .i64 a0,.int .i64 a1,.int .i64 a2,.int .i64 a3,.slice sa l c]) (xs:=xs) (by rw [ql (by decide)];simp [upd]) x0) qeX p_g1_3 qH p_d1_3 (by decide) ?_
 refine Yl.way (z1_4 (y:=.int .i64 0) (xs:=xs) (by rw [ql (by decide)];simp [upd]) x1) qeY p_g1_4 qH p_d1_4 (by decide) ?_
 refine jo (fun u=>u 1=v 1∧u 12=.agg #[.int .i64 a0,.int .i64 a1,.int .i64 a2,.int .i64 a3,.slice sa l c]∧u 13=.int .i64 0) ⟨by simp [upd],by simp [upd],by simp [upd]⟩ fun u ⟨u1,u12,u13⟩=>?_
 refine .alloc qeZ p_g1_5 qH qfe Tryz.zeroValue67 fun w₁ h₁=>?_
 rw [p_d1_5,yc (by decide)]
 have hc:(w₁.alloc (.cells #[.int .i64 0,.int .i64 0,.int .i64 0,.int .i64 0,.slice none 0 0] 67 (0,0))).heap[w₁.heap.size]? = _:=xN w₁ _
 have hsz:=h₁.size
 refine .store5 qfa p_g1_6 qH qff (bk:=w₁.heap.size) (by rw [ql (by decide)];simp [upd]) (by rw [ql (by decide)];simp [upd];exact u12) Tryz.sizeOf67 (.inr rfl) hc fun w₂ w₃ h₂ hA hx=>?_
 rw [p_d1_6,QA]
 have hsz3:w₁.heap.size+1≤w₃.heap.size:=by
  have e1:=XI w₁ (.cells #[.int .i64 0,.int .i64 0,.int .i64 0,.int .i64 0,.slice none 0 0] 67 (0,0))
  have e2:=h₂.size
  have e3:=hA.size
  have e2':w₁.heap.size+1≤w₂.heap.size:=by rw [← e1];exact e2
  omega
 clear hc hA h₂ h₁
 generalize w₁.heap.size=xb at hsz hsz3 hx ⊢
 refine Yl.way (z1_7 (x:=.int .i64 0) (by rw [ql (by decide)];simp [upd];exact u13)) qfb p_g1_7 qH p_d1_7 (by decide) ?_
 refine .ctl rfl (fun _=>stepG_region_end) ?_
 unfold pT1
 refine .ctl rfl (fun _=>stepG_seq) ?_
 refine .ctl rfl (fun _=>stepG_seq) ?_
 refine .ctl rfl (fun _=>stepG_region) ?_
 rw [qfh]
 simp only [List.range,List.range.loop]
 refine jo (fun x=>x 1=v 1∧x 3=.int .i64 0∧x 4=ptr xb) ⟨by simp [upd,u1],by simp [upd],by simp [upd]⟩ fun x ⟨x1,x3,x4⟩=>?_
 refine Yl.way (z2_0 (x:=.int .i64 0) (by rw [ql (by decide)];exact x3)) qfc p_g2_0 qH p_d2_0 (by decide) ?_
 refine Yl.way (z2_1 (n:=0) (by rw [ql (by decide)];simp [upd]) rfl) qfd p_g2_1 qH p_d2_1 (by decide) ?_
 refine .ctl rfl (fun _=>stepG_region_end) ?_
 refine .ctl rfl (fun _=>stepG_cond (t:=false) (by rw [ql (by decide)];simp [upd])) ?_
 refine .ctl rfl (fun _=>stepG_skip) ?_
 unfold pT2
 refine .ctl rfl (fun _=>stepG_seq) ?_
 refine .ctl rfl (fun _=>stepG_region) ?_
 rw [p_size4]
 simp only [List.range,List.range.loop]
 refine jo (fun y=>y 1=v 1∧y 4=ptr xb) ⟨by simp [upd,x1],by simp [upd,x4]⟩ fun y ⟨y1,y4⟩=>?_
 refine .chan (n:=0) p_at4_0 p_g4_0 qH p_op4_0 rfl Tryz.underlying87 (inf:=(Tryz.prog.info? 101).getD default) (by kernel_rfl) (by decide) (by simp) fun w₄ h₄=>?_
 rw [p_d4_0,yc (by decide)]
 have hx4:=h₄.block (.inr (.inr rfl)) hx
 have hs4:=h₄.size
 have hch:=xN w₄ (.chan 0 #[] false 0 0 false)
 have hx5:=(alloc_old (w:=w₄) (.chan 0 #[] false 0 0 false) (show xb < w₄.heap.size by omega)).trans hx4
 have hs5:=XI w₄ (.chan 0 #[] false 0 0 false)
 have hch':W.heap.size≤w₄.heap.size:=by omega
 clear hx hx4 h₄
 generalize w₄.alloc (.chan 0 #[] false 0 0 false)=w₅ at hch hx5 hs5 ⊢
 generalize w₄.heap.size=ch at hch hs4 hs5 hch' ⊢
 clear w₄
 refine .alloc p_at4_1 p_g4_1 qH p_op4_1 Tryz.zeroValue87 fun w₆ h₆=>?_
 rw [p_d4_1,yc (by decide)]
 have hx6:=h₆.block (.inr (.inl (.inr rfl))) hx5
 have hch6:=h₆.block (.inr (.inr rfl)) hch
 have hs6:=h₆.size
 have hcb:(w₆.alloc (.cells #[.chan none] 87 (0,0))).heap[w₆.heap.size]? = _:=xN w₆ _
 have hx7:=(alloc_old (w:=w₆) (.cells #[.chan none] 87 (0,0)) (show xb < w₆.heap.size by omega)).trans hx6
 have hch7:=(alloc_old (w:=w₆) (.cells #[.chan none] 87 (0,0)) (show ch < w₆.heap.size by omega)).trans hch6
 have hcb':W.heap.size≤w₆.heap.size:=by omega
 have hne1:xb≠w₆.heap.size:=by omega
 have hne2:ch≠w₆.heap.size:=by omega
 clear hx5 hch hx6 hch6 h₆ hs6
 change Fan.Way _ _ _ _ _ _ _ (w₆.alloc (.cells #[.chan none] 87 (0,0)))
 generalize w₆.alloc (.cells #[.chan none] 87 (0,0))=w₇ at hcb hx7 hch7 ⊢
 generalize w₆.heap.size=cb at hcb hcb' hne1 hne2 ⊢
 clear w₆
 refine .storeC (bk:=cb) (c:=ch) p_at4_2 p_g4_2 qH p_op4_2 (by rw [ql (by decide)];simp [upd]) (by rw [ql (by decide)];simp [upd]) Tryz.sizeOf87 (.inr rfl) hcb fun w₈ w₉ h₈ hA hcb9=>?_
 rw [p_d4_2,QA]
 have hx9:=(hA.block xb hne1).trans (h₈.block (.inr (.inl (.inl (.inr rfl)))) hx7)
 have hch9:=(hA.block ch hne2).trans (h₈.block (.inr (.inl (.inr rfl))) hch7)
 clear hA h₈
 refine .ctl rfl (fun _=>stepG_region_end) ?_
 refine .ctl rfl (fun _=>stepG_seq) ?_
 refine .ctl rfl (fun _=>stepG_region) ?_
 rw [p_size5]
 simp only [List.range,List.range.loop]
 exact .stop fun w hr=>⟨xb,cb,ch,_,(0,0),(0,0),hsz,hcb',hch',rfl,by simp [upd,y1],by simp [upd,y4],by simp [upd],hr.block (.inr (.inl (.inl (.inr rfl)))) hx9,hr.block (.inr (.inr rfl)) hcb9,hr.block (.inr (.inl (.inr rfl))) hch9⟩
theorem goes_wg {S:Nat→Prop} {u:Nat→Value} {B:Nat} :
 Goes Tryz.prog true AtRel (fun _ _ es=>∀e∈es,EvL (Sim.ShunOf S) B e) (fun g w'=>∃d,g=G (nb.at ⟨nT (upd u 6 (ptr W.heap.size)),[]⟩ [.code Qp]) cs∧w'=((W.at d).alloc (.cells #[.int .u64 0,.int .u32 0] 97 (0,0)))) 2 (G (nb.at ⟨nT u,[]⟩ (.inRegion pO5 [0] :: [.code Qp])) cs) W:=by
 refine Goes.step rfl fun w₁ hr=>?_
 have ⟨d,hd⟩:=hr
 subst hd
 have hr:(execOp (Go.Act.eval ⟨nT u,[]⟩) (pO 5 0)).run Tryz.prog (W.at d)=.ok (.value (.pointer (some ⟨W.heap.size,0,none⟩))) ((W.at d).alloc (.cells #[.int .u64 0,.int .u32 0] 97 (0,0))):=by
  have hz:=Tryz.zeroValue97 (W.at d)
  unfold execOp;rw [qfg]
  go_simp
 have he:(execOp (Go.Act.eval ⟨nT u,[]⟩) (pO 5 0)).events Tryz.prog (W.at d) #[]=#[]:=by
  unfold execOp;rw [qfg]
  simp [go_sem,Tryz.zeroValue97]
 have hl:listed Tryz.prog nb.fn ⟨nT u,[]⟩ (pO 5 0) (W.at d)=#[]:=by unfold listed;rw [he];exact seen_none _ _
 rw [stepG_value p_at5_0 (by unfold Region.wanted;rw [p_g5_0]) qH hr,hl,goes_go,p_d5_0,yc (by decide)]
 refine ⟨fun e h=>by simp at h,?_⟩
 refine Goes.step rfl fun w₂ hr=>?_
 have ⟨d2,hd2⟩:=hr
 subst hd2
 rw [stepG_region_end,goes_go]
 refine ⟨fun e h=>by simp at h,fun w₃ h3=>?_⟩
 have ⟨d3,hd3⟩:=h3
 subst hd3
 exact ⟨d3,rfl,rfl⟩
theorem way_c {v:Nat→Value} {x z:Value} {O:Nat→Prop} (v33:v 33=.tuple #[z,.bool false]) (v2:v 2=x) :
 Fan.Way Tryz.prog true Γ false (fun _ g _=>g=G (cf.finish (.tuple #[x,.int .i64 0])) cr) O (G (nb.at ⟨nT v,[]⟩ (.inRegion nO15 [1] :: QH)) (cf :: cr)) W:=by
 refine Yl.way (y15_1 (x:=z) (y:=.bool false) (by rw [ql (by decide)];exact v33)) qcc qeK qH qeJ (by decide) ?_
 refine .ctl rfl (fun _=>stepG_region_end) ?_
 unfold QH
 refine .ctl rfl (fun _=>stepG_seq) ?_
 refine .ctl rfl (fun _=>stepG_cond (t:=false) (by rw [ql (by decide)];simp [upd])) ?_
 refine .ctl rfl (fun _=>stepG_exit rfl) ?_
 refine Way.recode n_E ?_
 refine .ctl rfl (fun _=>stepG_seq) ?_
 refine .ctl rfl (fun _=>stepG_region) ?_
 rw [n_size18]
 simp only [List.range,List.range.loop]
 refine Yl.way (y18_0 (x:=x) (by rw [ql (by decide)];simp [upd,v2])) n_at18_0 n_g18_0 qH n_d18_0 (by decide) ?_
 refine Yl.way (y18_1 (x:=x) (by rw [ql (by decide)];simp [upd])) n_at18_1 n_g18_1 qH n_d18_1 (by decide) ?_
 refine Yl.way (y18_2 rfl) n_at18_2 n_g18_2 qH n_d18_2 (by decide) ?_
 refine .ctl rfl (fun _=>stepG_region_end) ?_
 exact XF (by simp [upd]) (by simp [upd];rfl)
end
end Go.Proofs.Tryz
end
section
namespace Go.Proofs.Tryz
open Go Go.Conc Go.Sim Go.Load Go.RowKit
open Go.ConcN (upd upd_ne upd_same)
theorem qdf (xs:Array Value):Frame.enter Tryz.prog 15 xs .normal=nb.at ⟨nT (entN xs),[]⟩ [.code Zl]:=by
 rw [enter_at xs Zp (show Tryz.f15.body=some Zl by kernel_rfl),show Tryz.f15.ntmps=43 by kernel_rfl,nT_ent];rfl
theorem book_tp {w:World} {B:Bk} {t:Nat→Question→Nat} (h:BookAt w B):BookAt (w.tp t) B:=⟨h.row,h.traf,h.small,h.cap⟩
theorem globs_tp {w:World} {t:Nat→Question→Nat} (h:Globs w):Globs (w.tp t):=⟨h.c0,h.c1,h.n0,h.n1⟩
theorem jE {w w2:World} (hB:Below w.heap.size w w2) {b o:Nat} {v:Value} (hb:b < w.heap.size) (h:w2.cell? ⟨b,o,none⟩=some v):w.cell? ⟨b,o,none⟩=some v:=by
 unfold World.cell? at h ⊢
 rw [hB.block b hb] at h
 exact h
theorem qdK {w w2:World} {B:Bk} (hB:Below w.heap.size w w2) (h:BookAt w2 B) (hga:∀ad,B.ga=some ad→ad.block < w.heap.size) (hta:∀g∈B.gs,∀ad,g.ta=some ad→ad.block < w.heap.size):BookAt w B:=by
 refine ⟨fun hl=>?_,fun g hg hl=>?_,h.small,h.cap⟩
 ·obtain ⟨b,o,e,hc⟩:=h.row hl
  have hb:=hga _ e
  exact ⟨b,o,e,fun i g hg=>let ⟨c1,c2,c3⟩:=hc i g hg;⟨jE hB hb c1,jE hB hb c2,jE hB hb c3⟩⟩
 ·obtain ⟨b,o,e,hp⟩:=h.traf g hg hl
  have hb:=hta g hg _ e
  exact ⟨b,o,e,fun i x hx=>let ⟨c1,c2⟩:=hp i x hx;⟨jE hB hb c1,jE hB hb c2⟩⟩
theorem past_imp {Shun Shun':Loc→Prop} {B:Nat} {t:Trace} (h:Past Shun B t) (hs:∀l,Shun l→Shun' l):Past Shun' B t :=
 ⟨h.clean,fun i a ha hm=>(h.known i a ha hm).imp id fun x=>⟨hs _ x.1,x.2⟩,h.over,h.hears,h.seen⟩
theorem qcj {S:Nat→Prop} {l:Loc}:Sim.ShunOf S l↔∃b,Fan.blk l=some b∧S b:=by
 cases l <;> simp [Sim.ShunOf,Fan.blk]
theorem qau {C:FuncId→Prop} {R:Nat→Nat→Prop} {la lb gr ho:Int} {ga:Option Addr} {n gc:Nat} {x':Value} (h:VR C R (.agg #[.int .i64 la,.int .i64 lb,.int .i64 gr,.int .i64 ho,.slice ga n gc]) x'):∃ga',x'=.agg #[.int .i64 la,.int .i64 lb,.int .i64 gr,.int .i64 ho,.slice ga' n gc]:=by
 cases h with
 | @agg xs xs' hs he =>
   have hs':xs'.size=5:=hs.symm
   obtain ⟨l⟩:=xs'
   match l,hs' with
   | [a,b,c,d,e],_ =>
     have e0:=(he 0 _ a rfl rfl).int_eq'
     have e1:=(he 1 _ b rfl rfl).int_eq'
     have e2:=(he 2 _ c rfl rfl).int_eq'
     have e3:=(he 3 _ d rfl rfl).int_eq'
     have e4:VR C R (.slice ga n gc) e:=he 4 _ e rfl rfl
     subst e0 e1 e2 e3
     cases e4 with
     | snil=>exact ⟨_,rfl⟩
     | slice=>exact ⟨_,rfl⟩
     | zcap=>exact ⟨_,rfl⟩
theorem qfP {C:FuncId→Prop} {R:Nat→Nat→Prop} {xs:Array Value} {y:Value} {al:Int} {x':Value} (h:VR C R (.tuple xs) x') (h0:xs[0]? = some y) (h1:xs[1]? = some (.int .i64 al)):∃xs' y',x'=.tuple xs'∧xs'[0]? = some y'∧xs'[1]? = some (.int .i64 al)∧VR C R y y':=by
 cases h with
 | @tuple xs xs' hs he =>
   have l1:=(Array.getElem?_eq_some_iff.1 h1).1
   have g0:xs'[0]? = some (xs'[0]'(by omega)):=Array.getElem?_eq_getElem _
   have g1:xs'[1]? = some (xs'[1]'(by omega)):=Array.getElem?_eq_getElem _
   have e1:=(he 1 _ _ h1 g1).int_eq'
   exact ⟨xs',_,rfl,g0,by rw [g1,e1],he 0 _ _ h0 g0⟩
 | junk=>cases h0
section
variable {K Ks:Cfg} {c g c0:Nat→Bool} {Fin:Goroutine→World→Prop}
theorem qbh (Z:Cov K qf Tryz.prog c g (fun f=>f=15)) (Zs:Cov Ks qf qf c g (fun _=>False)) (hco:K.C 42) (H:Grounds K c0 g):qbI K Ks qf Tryz.prog g (fun f=>f=15) Fin:=by
 intro bs S R q w gs a w' sl t hE hM hR hT hI
 obtain ⟨f,xs,xs',k,k',rfl,hxs,hk,rfl,rfl⟩:=hE
 obtain ⟨cf,cr,cf',cr',rfl,rfl,hcr⟩:∃cf cr cf' cr',k=cf :: cr∧k'=cf' :: cr'∧cr≠[]:=by
  cases hk with
  | @one a a' _ _=>exact ⟨_,_,_,_,rfl,rfl,bs.ne⟩
  | @cons a a' k k' _ h=>exact ⟨_,_,_,_,rfl,rfl,by cases h <;> simp⟩
 have hD:SD Ks g Fin { frame:=Frame.enter qf 15 xs .normal,callers:=cf :: cr,status:=.running,dying:=none } w (entV xs) [.code jS] (cf :: cr) w:=by
  have e:G (sb.at ⟨sT (entV xs),[]⟩ [.code jS]) (cf :: cr)={ frame:=Frame.enter qf 15 xs .normal,callers:=cf :: cr,status:=.running,dying:=none }:=by rw [qfC];rfl
  show Dn _ _ _ _ _ _ (G (sb.at ⟨sT (entV xs),[]⟩ [.code jS]) (cf :: cr)) _
  rw [e]
  exact ⟨hT,hM.self,.refl _ _⟩
 have hbad:=hD.bad
 replace hD:=(hD.seq Zs).region Zs
 change SD Ks g Fin _ w _ (.inRegion sO0 [0,1] :: _) _ w at hD
 replace hD:=hD.val Zs _ 2 rfl rfl rfl (by decide) (xO rfl)
 replace hD:=hD.val Zs _ 3 rfl rfl rfl (by decide) (xO rfl)
 replace hD:=(hD.rend Zs).seq Zs
 obtain ⟨v1,la,lb,gr,ho,ga,n,gc,wS,h1,hBS,e0,_,e6,ek⟩:=XE Zs (tk:=0) (by decide) (.inl rfl) hD
 replace e0:xs.getD 0 undef=.agg #[.int .i64 la,.int .i64 lb,.int .i64 gr,.int .i64 ho,.slice ga n gc]:=e0
 have v10:v1 0=.agg #[.int .i64 la,.int .i64 lb,.int .i64 gr,.int .i64 ho,.slice ga n gc]:=(ek 0 (by decide)).trans e0
 have v12:v1 2=.slice none 0 0:=(ek 2 (by decide)).trans (by simp [upd];rfl)
 replace h1:=(h1.seq Zs).region Zs
 change SD Ks g Fin _ w _ (.inRegion sOc [0,1,2,3,4,5] :: [.code sB0]) _ wS at h1
 replace h1:=h1.val Zs _ 1 rfl rfl rfl (by decide) (ji ((qj (by decide)).trans e6))
 obtain ⟨v2,hv2⟩:∃v2,v2=upd v1 1 (.int .i64 n):=⟨_,rfl⟩
 rw [← hv2] at h1
 have v20:v2 0=.agg #[.int .i64 la,.int .i64 lb,.int .i64 gr,.int .i64 ho,.slice ga n gc]:=by rw [hv2,upd_ne _ _ (by decide)];exact v10
 have v21:v2 1=.int .i64 n:=by rw [hv2,upd_same]
 have v22:v2 2=.slice none 0 0:=by rw [hv2,upd_ne _ _ (by decide)];exact v12
 clear hv2 v10 v12 e6 ek
 have h2:=Dn.step Zs h1 zx (stepG_enter (o:=sOc[1]) rfl (by unfold Region.wanted;rfl) sb_ne (run_call_body (o:=sOc[1]) (f:=42) (args:=#[.tmp 0,.const (.bool true)]) (ats:=#[26,4]) rfl qcm (by kernel_rfl) (by kernel_rfl)))
 have hargs:(#[Operand.tmp 0,.const (.bool true)]).map (Go.Act.eval ⟨sT v2,[]⟩)=#[.agg #[.int .i64 la,.int .i64 lb,.int .i64 gr,.int .i64 ho,.slice ga n gc],.bool true]:=by
  simp only [List.map_toArray,List.map_cons,List.map_nil]
  rw [qj (by decide),v20];rfl
 rw [hargs] at h2
 have hv0:VR K.C R (.agg #[.int .i64 la,.int .i64 lb,.int .i64 gr,.int .i64 ho,.slice ga n gc]) (xs'.getD 0 undef):=e0▸hxs.getD 0 VR.undef
 obtain ⟨ga',hx0'⟩:=qau hv0
 obtain ⟨Bo,hBo⟩:∃Bo:Bk,Bo=⟨(la,lb),gr,ho,List.replicate n ⟨⟨#[]⟩,0,[],none,0⟩,ga',gc⟩:=⟨_,rfl⟩
 have ebo:bv Bo=.agg #[.int .i64 la,.int .i64 lb,.int .i64 gr,.int .i64 ho,.slice ga' n gc]:=by rw [hBo];unfold bv;rw [List.length_replicate]
 rw [hx0',← ebo] at hv0
 have hRA:RM Tryz.prog S gs (G (nb.at ⟨nT (entN xs'),[]⟩ [.code Zl]) (cf' :: cr')) w' t:=by
  have e:G (nb.at ⟨nT (entN xs'),[]⟩ [.code Zl]) (cf' :: cr')={ frame:=Frame.enter Tryz.prog 15 xs' .normal,callers:=cf' :: cr',status:=.running,dying:=none }:=by rw [qdf];rfl
  rw [e];exact hR
 obtain ⟨N1,_,gsA,aA,wA,slA,tA,runA,hRA2,⟨bb,vA,hbb,rfl,hcb,vA1,vA2⟩,hszA,hsA,htA,hoA,hpA⟩:=Fan.RM.way (Γ:=⟨w'.heap.size,w'.heap.size,w'.heap.size,97,S⟩) (sl:=sl) (fun b hb=>hb.2.2.2) hRA (fun _ h=>h.elim) hM.low (way_a (W:=w') (B:=Bo) (v:=entN xs') (hx0'.trans ebo.symm))
 have hsA':∀b,b < w'.heap.size→wA.heap[b]? = w'.heap[b]? := fun b hb=>hsA b hb id
 have hX0:Ext0 K R R w w' wS wA:=⟨fun _ _ h=>h,fun _ _ h=>.inl h,hBS.size,hszA,fun c hc _=>hsA' c hc,htA,hoA,hpA,fun b _ hb=>hBS.block b hb⟩
 have hnd:ym wS:=by obtain ⟨_,_,_,hn,_⟩:=h2.self;exact hn
 have hM2:MS K Ks qf Tryz.prog g S R _ wS wA:=⟨(hM.w0.grow hsA' hszA).growS hBS.block hBS.size,hnd,h2.self,hM.glob,hM.shun,fun c hc=>Nat.lt_of_lt_of_le (hM.low c hc) hszA,Jb hM.keep hM.w0 hX0⟩
 have hne2:∀(fr:Frame) (l:Frame),({ frame:=Frame.enter qf 15 xs .normal,callers:=cf :: cr,status:=.running,dying:=none }:Goroutine)≠G fr (l :: cf :: cr):=fun fr l e=>by
  have:=congrArg (fun y:Goroutine=>y.callers.length) e
  simp [G] at this
 have hbl:=h2.desc.below1 (hne2 _ _)
 have hbad2:BadK (sb.at ⟨sT v2,[]⟩ (.inRegion sOc [1,2,3,4,5] :: [.code sB0]) :: cf :: cr):=.cons (fun d hd=>by cases hd) hbad
 obtain ⟨N2,gs1,w1',sl1,t1,x,x',w1,R1,S1,run1,hRM1,hB1,hLT1,hM1,hxx,hX1,hSS1⟩:=qcx (sl:=slA) Z Zs (List.cons_ne_nil _ _) (hI _ _ hbl) hM2 ((AR.nil.push hv0).push (.bool true)) hco (by decide) hbad2 hRA2
 rw [qeV,Option.bind_some,p_d1_1,yc (by decide)] at hRM1
 rw [show (sOc[1]?).bind (·.dst)=some 40 from rfl,qfv (by decide)] at hB1 hLT1 hM1
 refine qaL (yf runA run1) (Desc.below_or hbl hB1.desc) (hX0.trans hX1) (fun c h=>(hSS1 c h).imp id fun h=>Nat.le_trans hszA h) ?_
 have hk1:=hk.mono hX1.le
 have hbbA:bb < wA.heap.size:=(Array.getElem?_eq_some_iff.1 hcb).1
 have hcb1:w1'.heap[bb]? = some (.cells (bv Bo).cells 26 (0,0)):=(hX1.stay bb hbbA fun b hb=>by have:=hM.w0.low hb;omega).trans hcb
 have hbbS1:¬ S1 bb:=fun h=>by
  rcases hSS1 bb h with x | x
  ·have:=hM.low bb x;omega
  ·omega
 have hbb1:bb < w1'.heap.size:=(Array.getElem?_eq_some_iff.1 hcb1).1
 clear hcb hbb hbbA hsA hsA' hRA hRA2 runA run1 hM2 hnd hX0 hX1 hbl hbad2 h2 h1 hD hB1 hSS1 hszA htA hoA hpA hk hM hR hT hI hxs hv0 hx0'
 have hD3:SD Ks g Fin _ w1 (upd v2 40 x) (.inRegion sOc [2,3,4,5] :: [.code sB0]) (cf :: cr) w1:=⟨hLT1,hM1.self,.refl _ _⟩
 obtain ⟨xs2,y,al,v3,ex,y0,y1,h4,v41,v42,v43,vk⟩:=qdp Zs hD3 (upd_same _ _ _)
 subst ex
 replace h4:=h4.seq Zs
 obtain ⟨v5,la2,lb2,gr2,ho2,ga2,n2,gc2,w2,h6,hB2,f41,f5,f6,fk⟩:=XE Zs (tk:=41) (by decide) (.inr rfl) h4
 rw [v41] at f41
 subst f41
 have v52:v5 2=.slice none 0 0:=(fk 2 (by decide)).trans ((vk 2 (by decide)).trans ((upd_ne _ _ (by decide)).trans v22))
 have v51:v5 1=.int .i64 n:=(fk 1 (by decide)).trans ((vk 1 (by decide)).trans ((upd_ne _ _ (by decide)).trans v21))
 obtain ⟨hout,hin⟩:=qfT Zs h6 hcr v52 ((fk 42 (by decide)).trans v42) ((fk 43 (by decide)).trans v43)
 obtain ⟨xs2',y',rfl,y0',y1',hyy⟩:=qfP hxx y0 y1
 have hne:∀(z:Value),G (sb.at ⟨sT (upd v2 40 (.tuple xs2)),[]⟩ (.inRegion sOc [2,3,4,5] :: [.code sB0])) (cf :: cr)≠G (cf.finish z) cr:=fun z e=>by
  have:=congrArg (fun y:Goroutine=>y.callers.length) e
  simp [G] at this
 have hlow1:=hM1.low
 by_cases hal:al=0
 ·subst hal
  have h6:=hin rfl
  have hwr:WR (K.at 0) R1 w1 w1':=hM1.w0.wr 0 fun i q h=>absurd h (Nat.not_lt_zero _)
  have hNb1:Nbs w1 (fun b=>∃c,R1 b c):=⟨fun b ⟨c,hc⟩=>by
   obtain ⟨o,o',h1,_,h3⟩:=hM1.w0.obj b c hc
   exact ⟨o,o',_,_,_,h1,h3⟩,fun ad ad' l cp ⟨c,hc⟩ hcell hl=>by
   obtain ⟨v',_,hv⟩:=hwr.cell (a:=ad) (a':={ ad with block:=c }) ⟨hc,rfl,rfl⟩ hcell
   cases hv with
   | slice l c ha=>exact ⟨_,ha.1⟩
   | zcap=>exact absurd hl (by decide)⟩
  have hNb2:=hNb1.below (fun b ⟨c,hc⟩=>hM1.w0.lowS hc) hB2
  have hxa:∀ad:Addr,ga2=some ad→1≤n2→∃c,R1 ad.block c:=fun ad e hl=>by
   subst e
   cases hyy with
   | @agg ys ys' hs he =>
     have l4:4 < ys'.size:=by rw [← hs];show 4 < 5;decide
     have:=he 4 _ (ys'[4]'l4) rfl (by simp)
     generalize ys'[4]'l4=z at this
     cases this with
     | slice l c ha=>exact ⟨_,ha.1⟩
     | zcap=>exact absurd hl (by decide)
  obtain ⟨v6,gs2,h7,hgl,hmn,v6k,hBk2,hn1,hga,hta⟩:=qfS Zs hNb2 (la:=la2) (lb:=lb2) (gr:=gr2) (ho:=ho2) (m:=(n:Int)) hxa f5 f6 v51 h6
  obtain ⟨B,hBd⟩:∃B:Bk,B=⟨(la2,lb2),gr2,ho2,gs2,ga2,gc2⟩:=⟨_,rfl⟩
  rw [← hBd] at hBk2
  have eB:.agg #[.int .i64 la2,.int .i64 lb2,.int .i64 gr2,.int .i64 ho2,.slice ga2 n2 gc2]=bv B:=by rw [hBd,← hgl];rfl
  have hlB:B.gs.length=n2:=by rw [hBd];exact hgl
  have hnn:n=n2:=by omega
  subst hnn
  have hTw:Twins R1 B:=⟨by rw [hlB];exact hn1,by rw [hBd];exact hga,by rw [hBd];exact hta⟩
  have v641:v6 41=bv B:=(v6k 41 (by decide)).trans ((fk 41 (by decide)).trans (v41.trans eB))
  have v66:v6 6=.int .i64 B.gs.length:=by rw [hlB];exact (v6k 6 (by decide)).trans f6
  rw [eB] at hyy
  have hBk:BookAt w1 B:=qdK hB2 hBk2 (fun ad e=>let ⟨_,hc⟩:=hTw.ga ad e;hM1.w0.lowS hc) (fun g hg ad e=>let ⟨_,hc⟩:=(hTw.ta g hg).2 ad e;hM1.w0.lowS hc)
  have hGl2:Globs w2:=H.globs _ fun n hn=>by
   obtain ⟨_,e,_⟩:=hM1.keep n (H.fz n hn)
   rw [hB2.block n (hM1.w0.lowS (hM1.glob n hn))];exact e
  clear eB hNb1 hNb2 hxa hwr hBd hga hta hgl hin hout
  obtain ⟨vs,w3s,hB3,hc0,vsk,vs41,hSD⟩:=qfV Zs h7 v641 hBk2 hGl2
  have hBs3:Below w1.heap.size w1 w3s:=hB2.trans (hB3.mono hB2.size)
  have ey':y'=bv (twB R1 B):=val_twin hM1.w0 hTw.len hyy
  subst ey'
  have hg1:∀n,g n=true→R1 n n∧w1.heap[n]? = K.bs[n]?∧w1'.heap[n]? = K.bt[n]? := fun n hn=>hM1.keep n (H.fz n hn)
  have hSm:=small_of H hM1.w0 hTw hBk hg1
  have hshA:∀b c,qds g R1 B b c→¬ S1 c:=fun b c h hs=>by
   obtain ⟨a,ha⟩:=hSm.inR b c h
   exact hM1.shun a c ha hs
  have hV:Valid B:=qI hc0
  have hc0':checkN (twB R1 B)=0:=(qcz B).trans hc0
  have hV':Valid (twB R1 B):=qI hc0'
  obtain ⟨N3,_,gs3,a3,w3,sl3,t3,run3,hRM3,⟨xb,cb,ch,u,fx,fc,hxb,hcb',hch,rfl,u1,u4,u5,kx,kc,kch⟩,hsz3,hs3,ht3,ho3,hp3⟩:=Fan.RM.way (Γ:=⟨w1'.heap.size,w1'.heap.size,w1'.heap.size,97,S1⟩) (sl:=sl1) (fun b hb=>hb.2.2.2) hRM1 (fun _ h=>h.elim) hlow1 (way_b2 (W:=w1') (v:=upd vA 11 (.tuple xs2')) (xs:=xs2') (upd_same _ _ _) y0' y1')
  have hs3':∀b,b < w1'.heap.size→w3.heap[b]? = w1'.heap[b]? := fun b hb=>hs3 b hb id
  have hlow3:∀c,S1 c→c < w3.heap.size:=fun c h=>Nat.lt_of_lt_of_le (hlow1 c h) hsz3
  obtain ⟨N4,gs4,a4,w4,sl4,t4,run4,⟨h04,⟨qq4,hL4⟩,hP4,hn4⟩,⟨d,rfl,rfl⟩⟩:=hRM3.walkB (sl:=sl3) (B:=w3.heap.size) (fun _ _ _ h=>h) rfl (goes_wg (W:=w3) (S:=S1) (B:=w3.heap.size))
  obtain ⟨w4,hw4⟩:∃w4,w4=(w3.at d).alloc (.cells #[.int .u64 0,.int .u32 0] 97 (0,0)):=⟨_,rfl⟩
  rw [← hw4] at run4
  have hsz4:w4.heap.size=w3.heap.size+1:=by rw [hw4];exact XI _ _
  have hs4:∀b,b < w3.heap.size→w4.heap[b]? = w3.heap[b]? := fun b hb=>by rw [hw4];exact alloc_old (w:=w3.at d) _ hb
  have hwg4:w4.heap[w3.heap.size]? = some (.cells #[.int .u64 0,.int .u32 0] 97 (0,0)):=by rw [hw4];exact xN (w3.at d) _
  have ht4:w4.tape=w3.tape∧w4.os=w3.os∧w4.output=w3.output:=by rw [hw4];exact ⟨rfl,rfl,rfl⟩
  have lt3:∀{b:Nat} {o:Obj},w3.heap[b]? = some o→b < w3.heap.size:=fun h=>(Array.getElem?_eq_some_iff.1 h).1
  have lxb:=lt3 kx
  have lcb:=lt3 kc
  have lch:=lt3 kch
  have kbb:w4.heap[bb]? = some (.cells (bv Bo).cells 26 (0,0)):=by
   rw [hs4 bb (by omega),hs3' bb (by omega)];exact hcb1
  have hnS1:∀b,w1'.heap.size≤b→¬ S1 b:=fun b h1 h2=>by have:=hlow1 b h2;omega
  have e1:xb≠ch:=fun e=>by rw [e,kch] at kx;cases kx
  have e2:cb≠ch:=fun e=>by rw [e,kch] at kc;cases kc
  obtain ⟨Γ,hΓ⟩:∃Γ:Fan.Ge,Γ=⟨w4.heap.size,w3.heap.size,ch,97,S1⟩:=⟨_,rfl⟩
  have hro:∀b,b < w4.heap.size→b≠w3.heap.size→b≠ch→¬ S1 b→Γ.ro b:=fun b h1 h2 h3 h4=>by rw [hΓ];exact ⟨h1,h2,h3,h4⟩
  have hn20:B.gs.length≤20:=hBk.small.1
  have hlen':(twB R1 B).gs.length=B.gs.length:=by show (B.gs.map _).length=_;rw [List.length_map]
  have hWG:ConcR.WgAt Γ.ty Γ.Wg w4 0 0:=by rw [hΓ];exact hwg4
  have hcells:(bv (twB R1 B)).cells=#[.int .i64 B.lim.1,.int .i64 B.lim.2,.int .i64 B.growth,.int .i64 B.hours,.slice (twB R1 B).ga B.gs.length B.gc]:=by
   show #[_,_,_,_,Value.slice (twB R1 B).ga (twB R1 B).gs.length B.gc]=_
   rw [hlen'];rfl
  have hbo4:∀ga l c,(bv (twB R1 B)).cells[4]? = some (.slice ga l c)→∃ga' c',(bv Bo).cells[4]? = some (.slice ga' l c'):=fun ga3 l c e=>by
   rw [hcells] at e
   simp only [List.size_toArray,List.length_cons,List.length_nil,List.getElem?_toArray,List.getElem?_cons_succ,List.getElem?_cons_zero,Option.some.injEq,Value.slice.injEq] at e
   obtain ⟨_,e,_⟩:=e
   refine ⟨ga',gc,?_⟩
   rw [ebo,← e,hlB]
   rfl
  have hNW:NW Γ w4 bb cb xb (bv (twB R1 B)).cells w4:=by
   refine ⟨hro bb (by omega) (by omega) (by omega) hbbS1,hro cb (by omega) (by omega) e2 (hnS1 cb hcb'),hro xb (by omega) (by omega) e1 (hnS1 xb hxb),⟨_,_,_,kbb,hbo4⟩,⟨_,_,(hs4 xb lxb).trans kx⟩,?_,by rw [hΓ];show w3.heap.size < w4.heap.size;omega,by rw [hΓ];exact Nat.le_refl _,⟨0,0,hWG⟩,.refl _ _ _⟩
   have:=(hs4 cb lcb).trans kc
   unfold World.cell?
   rw [this,hΓ];rfl
  rw [hcells] at hNW
  have hNV:NV Γ bb cb xb (upd u 6 (ptr w3.heap.size)):=by
   refine ⟨?_,?_,?_,?_⟩
   ·rw [upd_ne _ _ (by decide),u1,upd_ne _ _ (by decide)];exact vA1
   ·rw [upd_ne _ _ (by decide)];exact u4
   ·rw [upd_ne _ _ (by decide)];exact u5
   ·rw [upd_same,hΓ]
  have hs4A:∀b,b < w1'.heap.size→w4.heap[b]? = w1'.heap[b]? := fun b hb=>by rw [hs4 b (by omega),hs3' b hb]
  have hMW:Fan.MW (k1Of K c0 g R1 B w1') Γ g (qds g R1 B) (fun _=>False) (qaw K g R1 B w1') w4:=by
   refine ⟨hSm.w0.grow hs4A (by omega),hSm.nd,hSm.glob,fun b c h=>.inl ⟨?_,h.2⟩,fun b h=>by rw [hΓ] at h;exact h.1⟩
   have hlt:=hSm.w0.low h
   exact hro c (by omega) (by omega) (by omega) fun x=>hshA b c h x
  have hKid:∀i < B.gs.length,KidData Γ (k1Of K c0 g R1 B w1') qf g i (ZK B i) #[.int .i64 B.lim.1,.int .i64 B.lim.2,.int .i64 B.growth,.int .i64 B.hours,.slice (twB R1 B).ga B.gs.length B.gc] w4:=fun i hi=>by
   have hgi:B.gs[i]? = some B.gs[i]:=by simp [hi]
   have hgi':(twB R1 B).gs[i]? = some (twG R1 B.gs[i]):=by show (B.gs.map _)[i]? = _;rw [List.getElem?_map,hgi];rfl
   have ea:ZK B i=yP (twB R1 B) (twG R1 B.gs[i]):=by unfold ZK;rw [hgi,qcW]
   have hfine:∀tt,FineBk ((qaw K g R1 B w1').tp tt) (twB R1 B):=fun tt=>⟨book_tp hSm.book,hV'.num.1⟩
   have harg2:∀C,AR C (qds g R1 B) #[bv (twB R1 B),.int .i64 i] #[bv (twB R1 B),.int .i64 i]:=fun C=>(AR.nil.push (hSm.arg C)).push (.int _ _)
   obtain ⟨hTi,_⟩:=hSm.tree H H.cn harg2 fun tt=>YE (twB R1 B) i _ hgi' _ (hfine tt) (hV'.grp _ (List.mem_of_getElem? hgi')).traf
   refine ⟨⟨fun x _=>x=.int .i64 (ZK B i),_,_,bv (twB R1 B),ea▸hTi,fun x w h=>h,?_,hMW⟩⟩
   rw [← hcells]
   exact hSm.arg _
  obtain ⟨N5,gs5,w5,sl5,t5,run5,hFin⟩:=qcX (ans:=ZK B) (cs:=cf' :: cr') (H.z1 _ _ _) H.cn (Γ:=Γ) (gs:=gs4) (w:=w4) (sl:=sl4) (t:=t4) (by rw [hΓ]) (by omega) (by rw [hΓ];exact ⟨by show w3.heap.size < w4.heap.size;omega,by show ch < w4.heap.size;omega,by show ch≠w3.heap.size;omega⟩) (by rw [hΓ]) h04 hL4 (Shun:=Sim.ShunOf S1) (B:=w3.heap.size) (by rw [hΓ];exact Nat.le_refl _) hP4 (fun l h=>by rw [hΓ];exact qcj.1 h) (by rw [hΓ];exact hnS1 ch hch) hn4 hWG (by rw [hΓ];exact ⟨_,_,_,(hs4 ch lch).trans kch⟩) hNW hNV hKid
  obtain ⟨⟨a5,_,h05,v5',sb,rfl,v33,v2',hsb,ksb⟩,hsize5,⟨qq5,hL5⟩,hP5,hFr,hn5⟩:=hFin
  obtain ⟨S5,hS5⟩:∃S5:Nat→Prop,S5=fun b=>S1 b∨b=w3.heap.size∨b=ch:=⟨_,rfl⟩
  have hB0:Γ.B0=w4.heap.size:=by rw [hΓ]
  have hsz5:w4.heap.size≤w5.heap.size:=by rw [← hB0];exact hFr.size
  have hs5:∀b,b < w4.heap.size→b≠w3.heap.size→b≠ch→w5.heap[b]? = w4.heap[b]? := fun b h1 h2 h3=>hFr.low b (by rw [hB0];exact h1) (by rw [hΓ];exact h2) (by rw [hΓ];exact h3)
  have hlow5:∀b,S5 b→b < w5.heap.size:=fun b hb=>by
   rw [hS5] at hb
   rcases hb with h | h | h
   ·have:=hlow1 b h;omega
   ·omega
   ·omega
  have hRM5:RM Tryz.prog S5 gs5 (G (nb.at ⟨nT v5',[]⟩ (.inRegion nO15 [1] :: QH)) (cf' :: cr')) w5 t5:=by
   refine ⟨h05,⟨qq5,hL5⟩,past_imp hP5 fun l h=>?_,hn5⟩
   obtain ⟨b,h1,h2⟩:=h
   refine qcj.2 ⟨b,h1,?_⟩
   rw [hS5]
   rw [hΓ] at h2
   exact h2
  obtain ⟨N6,_,gs6,a6,w6,sl6,t6,run6,hRM6,rfl,hsz6,hs6,ht6,ho6,hp6⟩:=Fan.RM.way (Γ:=⟨w5.heap.size,w5.heap.size,w5.heap.size,97,S5⟩) (sl:=sl5) (fun b hb=>hb.2.2.2) hRM5 (fun _ h=>h.elim) hlow5 (way_c (W:=w5) (O:=fun _=>False) v33 v2')
  obtain ⟨slS,w4s,hslS,hB4,kS,hDn⟩:=walk_sum Zs hV hSD hcr vs41 ((vsk 6 (by decide)).trans v66) (hBk2.keep hB3)
  have hBs4:Below w1.heap.size w1 w4s:=hBs3.trans (hB4.mono hBs3.size)
  have hsb':w4.heap.size≤sb:=by rw [← hB0];exact hsb
  have lsb:sb < w5.heap.size:=(Array.getElem?_eq_some_iff.1 ksb).1
  refine phase_end (P2:=fun b c=>b=slS∧c=sb) hM1 hk1 hDn (hne _) hBs4.block hBs4.size (fun b hb=>?_) (by omega) (yf (yf (yf run3 run4) run5) run6) hRM6 (fun b hb=>?_) (fun b hb=>Nat.lt_of_lt_of_le (hlow5 b hb) hsz6) ?_ ?_ ?_ (fun b cc hbc=>?_) (fun b cc dd h k=>h.2.trans k.2.symm) (fun b cc dd h k=>h.1.trans k.1.symm) ?_
  ·rw [hs6 b (by omega) id,hs5 b (by omega) (by omega) (by omega),hs4 b (by omega),hs3' b hb]
  ·rw [hS5] at hb
   rcases hb with h | h | h
   ·exact .inl h
   ·exact .inr (by omega)
   ·exact .inr (by omega)
  ·exact ht6.trans (hFr.tape.trans (ht4.1.trans ht3))
  ·exact ho6.trans (hFr.os.trans (ht4.2.1.trans ho3))
  ·exact hp6.trans (hFr.output.trans (ht4.2.2.trans hp3))
  ·obtain ⟨rfl,rfl⟩:=hbc
   refine ⟨Nat.le_trans hBs3.size hslS,by omega,fun hb=>?_,_,_,kS,(hs6 cc lsb id).trans ksb,.cells _ (AR.map _ fun j _=>.int _ _) FzR.none⟩
   rw [hS5] at hb
   rcases hb with h | h | h
   ·have:=hlow1 cc h;omega
   ·omega
   ·omega
  ·have ha:qF (Or2 R1 fun b c=>b=slS∧c=sb) ⟨slS,0,none⟩ ⟨sb,0,none⟩:=⟨Or.inr ⟨rfl,rfl⟩,rfl,rfl⟩
   exact ((AR.nil.push (.slice _ _ ha)).push (.int _ _)).tuple
 ·
  obtain ⟨ga3,rfl⟩:=qau hyy
  obtain ⟨N3,_,gs3,a3,w3,sl3,t3,run3,hRM3,rfl,hsz3,hs3,ht3,ho3,hp3⟩:=Fan.RM.way (Γ:=⟨w1'.heap.size,w1'.heap.size,w1'.heap.size,97,S1⟩) (sl:=sl1) (fun b hb=>hb.2.2.2) hRM1 (fun _ h=>h.elim) hlow1 (way_b1 (W:=w1') (bb:=bb) (v:=upd vA 11 (.tuple xs2')) (xs:=xs2') (upd_same _ _ _) y0' y1' hal)
  refine phase_end (P2:=fun _ _=>False) hM1 hk1 (hout hal) (hne _) hB2.block hB2.size (fun b hb=>hs3 b hb id) hsz3 run3 hRM3 (fun c h=>.inl h) (fun c h=>Nat.lt_of_lt_of_le (hlow1 c h) hsz3) ht3 ho3 hp3 (fun _ _ h=>h.elim) (fun _ _ _ h=>h.elim) (fun _ _ _ h=>h.elim) ?_
  exact ((AR.nil.push (.snil _ _)).push (.int _ _)).tuple
end
end Go.Proofs.Tryz
end
section
namespace Go.Proofs.Tryz
open Go Go.Conc Go.Sim Go.Load Go.RowKit
def c0L:List Nat:=[87,85,71,91,92,65,46,124,42,56,62,69,10,47,125,93,133,96,119,150,151,152,153,154,155,156,157,158,159]
def cxL:List Nat:=[34,33,123,7,35,36,121,49,39,37,51,38,22,74,86,32,12,24,26,28,20,17,8,40,41,88,89,90,73,77,75,76,66,81,83,70,67,43,44,45,14,120,116,117,58,131,3,4,5,6,9,11,13,16,18,19,21,23,25,27,29,30,31,82,122,84,55,50,97,54,48,52,53,57,68,72,78,79,80,132,94,95,118]
def c0B (f:Nat):Bool:=c0L.contains f
def cB (f:Nat):Bool:=c0L.contains f || cxL.contains f || f == 15
def gB (n:Nat):Bool:=n == 1 || n == 0
def okB (P:Program) (c:Nat→Bool) (f:Nat):Bool:=match P.funcs[f]? with
 | some fn => !(fn.name == "runtime.NumGoroutine") && (P.inits.idxOf? f == none) && (match fn.body with | some x=>zH P c gB x | none=>false)
 | none=>false
theorem ok_o:c0L.all (okB Tryz.prog c0B)=true:=by kernel_rfl
theorem ok_o':c0L.all (okB qf c0B)=true:=by kernel_rfl
theorem ok_a:(c0L ++ cxL).all (okB Tryz.prog cB)=true:=by kernel_rfl
theorem ok_a':(c0L ++ cxL ++ [15]).all (okB qf cB)=true:=by kernel_rfl
theorem zeros_ok:(Tryz.prog.types.all fun i=>match i.zero with | some v=>zA 8 v || (match v with | .tuple xs=>xs.size == 0 | _=>false) | none=>true)=true:=by kernel_rfl
theorem Js {t:TypeId} {i:TypeInfo} {v:Value} (h:Tryz.prog.info? t=some i) (hv:i.zero=some v):jD v:=by
 refine qen (T:=Tryz.prog.toTables) (fun k i v hk hv=>?_) h hv
 have hz:=zeros_ok
 rw [Array.all_eq_true'] at hz
 have:=hz i (Array.mem_of_getElem? hk)
 simp only [hv,Bool.or_eq_true] at this
 rcases this with h | h
 ·exact fun C R=>VR.plain 8 v h
 ·cases v with
  | tuple xs =>
    have:xs=#[]:=by simpa using h
    rw [this];exact fun C R=>VR.undef
  | _=>cases h
theorem qfA {P:Program} {k:Nat} (x:Func) (T:Program) {f:Nat} (h:k≠f) (hT:T.funcs=P.funcs.setIfInBounds k x):T.funcs[f]? = P.funcs[f]? := by rw [hT];exact Array.getElem?_setIfInBounds_ne h
theorem QT {f:Nat} (h:f≠15):qf.funcs[f]? = Tryz.prog.funcs[f]? := by
 exact qfA YT qf (Ne.symm h) (by kernel_rfl)
theorem Qq {P:Program} {c:Nat→Bool} {f:Nat} (h:okB P c f=true):∃fn x,P.funcs[f]? = some fn∧(fn.name == "runtime.NumGoroutine")=false∧P.inits.idxOf? f=none∧fn.body=some x∧zH P c gB x=true:=by
 unfold okB at h
 cases e:P.funcs[f]? with
 | none=>rw [e] at h;cases h
 | some fn =>
   rw [e] at h
   simp only [Bool.and_eq_true,Bool.not_eq_true',beq_iff_eq] at h
   obtain ⟨⟨h1,h2⟩,h3⟩:=h
   cases e2:fn.body with
   | none=>rw [e2] at h3;cases h3
   | some x=>rw [e2] at h3;exact ⟨fn,x,rfl,h1,h2,e2,h3⟩
theorem xH {l:List Nat} {p:Nat→Bool} (h:l.all p=true) {f:Nat} (hf:l.contains f=true):p f=true:=by
 rw [List.all_eq_true] at h
 exact h f (by simpa using hf)
theorem not_o:c0B 15=false:=by decide +kernel
variable (Fz:Nat→Prop) (bs bt:Array Obj)
theorem cov_o:Cov (Yp qf Tryz.prog c0B gB Fz bs bt) qf Tryz.prog c0B gB (fun _=>False) where
 tables:=za
 zero:=fun t i v h hv=>Js h hv
 ng:=rfl
 call:=fun f hf=>by
  obtain ⟨fn,x,e1,e2,_,e3,_⟩:=Qq (xH ok_o (f:=f) hf)
  obtain ⟨fn',x',f1,f2,_,f3,_⟩:=Qq (xH ok_o' (f:=f) hf)
  exact ⟨fn',fn,f1,e1,f2,e2,by rw [f3];rfl,by rw [e3];rfl⟩
 hc:=fun f h=>h
 hD:=fun f x=>Iff.rfl
 body:=fun f hf _=>by
  obtain ⟨fn,x,e1,e2,e4,e3,e5⟩:=Qq (xH ok_o (f:=f) hf)
  have hne:f≠15:=fun e=>by subst e;exact absurd (show c0B 15=true from hf) (by rw [not_o];exact Bool.false_ne_true)
  exact ⟨fn,x,(QT hne).trans e1,e1,e3,⟨fn,(QT hne).trans e1,e1,e4⟩,e5⟩
theorem cov_os:Cov (Yp qf qf c0B gB Fz bs bt) qf qf c0B gB (fun _=>False) where
 tables:=rfl
 zero:=fun t i v h hv=>Js ((yE t).symm.trans h) hv
 ng:=rfl
 call:=fun f hf=>by
  obtain ⟨fn',x',f1,f2,_,f3,_⟩:=Qq (xH ok_o' (f:=f) hf)
  exact ⟨fn',fn',f1,f1,f2,f2,by rw [f3];rfl,by rw [f3];rfl⟩
 hc:=fun f h=>h
 hD:=fun f x=>Iff.rfl
 body:=fun f hf _=>by
  obtain ⟨fn,x,e1,e2,e4,e3,e5⟩:=Qq (xH ok_o' (f:=f) hf)
  exact ⟨fn,x,e1,e1,e3,⟨fn,e1,e1,e4⟩,e5⟩
theorem XJ {f:Nat} (h:cB f=true):(c0L ++ cxL).contains f=true∨f=15:=by
 unfold cB at h
 simp only [Bool.or_eq_true,beq_iff_eq] at h
 rcases h with (h | h) | h
 ·left;rw [List.contains_iff_mem] at h ⊢;exact List.mem_append.2 (.inl h)
 ·left;rw [List.contains_iff_mem] at h ⊢;exact List.mem_append.2 (.inr h)
 ·exact .inr h
theorem qdM {f:Nat} (h:cB f=true):(c0L ++ cxL ++ [15]).contains f=true:=by
 rcases XJ h with h | h
 ·rw [List.contains_iff_mem] at h ⊢;exact List.mem_append.2 (.inl h)
 ·subst h;rw [List.contains_iff_mem];exact List.mem_append.2 (.inr (List.mem_singleton.2 rfl))
theorem cov_a:Cov (Yp qf Tryz.prog cB gB Fz bs bt) qf Tryz.prog cB gB (fun f=>f=15) where
 tables:=za
 zero:=fun t i v h hv=>Js h hv
 ng:=rfl
 call:=fun f hf=>by
  obtain ⟨fn',x',f1,f2,_,f3,_⟩:=Qq (xH ok_a' (qdM hf))
  rcases XJ hf with h | rfl
  ·obtain ⟨fn,x,e1,e2,_,e3,_⟩:=Qq (xH ok_a h)
   exact ⟨fn',fn,f1,e1,f2,e2,by rw [f3];rfl,by rw [e3];rfl⟩
  ·exact ⟨fn',Tryz.f15,f1,Zp,f2,by kernel_rfl,by rw [f3];rfl,by kernel_rfl⟩
 hc:=fun f h=>h
 hD:=fun f x=>Iff.rfl
 body:=fun f hf hs=>by
  rcases XJ hf with h | h
  ·obtain ⟨fn,x,e1,e2,e4,e3,e5⟩:=Qq (xH ok_a h)
   exact ⟨fn,x,(QT hs).trans e1,e1,e3,⟨fn,(QT hs).trans e1,e1,e4⟩,e5⟩
  ·exact absurd h hs
theorem cov_as:Cov (Yp qf qf cB gB Fz bs bt) qf qf cB gB (fun _=>False) where
 tables:=rfl
 zero:=fun t i v h hv=>Js ((yE t).symm.trans h) hv
 ng:=rfl
 call:=fun f hf=>by
  obtain ⟨fn',x',f1,f2,_,f3,_⟩:=Qq (xH ok_a' (qdM hf))
  exact ⟨fn',fn',f1,f1,f2,f2,by rw [f3];rfl,by rw [f3];rfl⟩
 hc:=fun f h=>h
 hD:=fun f x=>Iff.rfl
 body:=fun f hf _=>by
  obtain ⟨fn,x,e1,e2,e4,e3,e5⟩:=Qq (xH ok_a' (qdM hf))
  exact ⟨fn,x,e1,e1,e3,⟨fn,e1,e1,e4⟩,e5⟩
end Go.Proofs.Tryz
end
namespace Go.Proofs.Tryz
open Go Go.Conc Go.Sim Go.Load Go.RowKit
section
variable (e0 e1:TypeId) (f0 f1:Nat×Nat)
def gObj (n:Nat):Obj:=if n=1 then .cells #[.int .i64 0,.int .i64 1] e0 (0,max (max 2 f0.2) 1) else .cells #[fnum,fgrp] e1 (0,max (max 2 f1.2) 1)
def gBs:Array Obj:=Array.ofFn (n:=2) fun i=>gObj e0 e1 f0 f1 i.1
variable {e0 e1:TypeId} {f0 f1:Nat×Nat}
theorem ZX {n:Nat} (h:gB n=true):n=1∨n=0:=by
 unfold gB at h
 simpa only [Bool.or_eq_true,beq_iff_eq] using h
theorem xm:(gBs e0 e1 f0 f1)[1]? = some (.cells #[.int .i64 0,.int .i64 1] e0 (0,max (max 2 f0.2) 1)):=by simp [gBs,gObj]
theorem xS:(gBs e0 e1 f0 f1)[0]? = some (.cells #[fnum,fgrp] e1 (0,max (max 2 f1.2) 1)):=by simp [gBs,gObj]
theorem qbL {C:FuncId→Prop} {R:Nat→Nat→Prop} {x y:Value} (hx:VR C R x x) (hy:VR C R y y):AR C R #[x,y] #[x,y]:=(AR.nil.push hx).push hy
theorem ZW {C:FuncId→Prop} {R:Nat→Nat→Prop} {f:FuncId} (h:C f):VR C R (.func (.func f) #[] #[]) (.func (.func f) #[] #[]):=AR.func h AR.nil AR.nil
theorem gBs_rel {C:FuncId→Prop} {D:FuncId→Code→Prop} {R:Nat→Nat→Prop} {W:World} (h1:C 150) (h2:C 151) (hn:W.heap[1]? = some (.cells #[.int .i64 0,.int .i64 1] e0 f0)) (hc:W.heap[0]? = some (.cells #[fnum,fgrp] e1 f1)) {n:Nat} (h:gB n=true) :
 ∃o o',(gBs e0 e1 f0 f1)[n]? = some o∧W.heap[n]? = some o'∧OR C D R o o':=by
 rcases ZX h with rfl | rfl
 ·exact ⟨_,_,xm,hn,.cells e0 (qbL (.int _ _) (.int _ _)) qee⟩
 ·exact ⟨_,_,xS,hc,.cells e1 (qbL (ZW h1) (ZW h2)) qee⟩
theorem gBs_self {C:FuncId→Prop} {D:FuncId→Code→Prop} {R:Nat→Nat→Prop} (h1:C 150) (h2:C 151) {n:Nat} (h:gB n=true):∃o,(gBs e0 e1 f0 f1)[n]? = some o∧OR C D R o o:=by
 rcases ZX h with rfl | rfl
 ·exact ⟨_,xm,.cells e0 (qbL (.int _ _) (.int _ _)) (qaQ (by omega))⟩
 ·exact ⟨_,xS,.cells e1 (qbL (ZW h1) (ZW h2)) (qaQ (by omega))⟩
theorem gBs_fz {n:Nat} (h:gB n=true):∃c e hi,(gBs e0 e1 f0 f1)[n]? = some (.cells c e (0,hi))∧c.size≤hi:=by
 rcases ZX h with rfl | rfl
 ·exact ⟨_,_,_,xm,by show 2≤max (max 2 f0.2) 1;omega⟩
 ·exact ⟨_,_,_,xS,by show 2≤max (max 2 f1.2) 1;omega⟩
theorem qef {w:World} (h:∀n,gB n=true→w.heap[n]? = (gBs e0 e1 f0 f1)[n]?):Globs w:=by
 have h0:=(h 1 (by decide)).trans xm
 have h1:=(h 0 (by decide)).trans xS
 refine ⟨?_,?_,?_,?_⟩ <;> unfold World.cell? <;> simp only [h0,h1] <;> rfl
end
theorem c_num:c0B 150=true∧c0B 151=true∧c0B 42=true∧c0B 62=true:=by decide +kernel
theorem c_num':cB 150=true∧cB 151=true:=by decide +kernel
abbrev XB (X:Nat→Prop) (b:Nat):Prop:=X b∧¬ gB b=true
inductive PlainX (X:Nat→Prop):Value→Prop
 | int (k:IntKind) (n:Int):PlainX X (.int k n)
 | str (s:ByteArray):PlainX X (.string s)
 | snil (l c:Nat):PlainX X (.slice none l c)
 | slice (a:Addr) (l c:Nat):X a.block→PlainX X (.slice (some a) l c)
 | zcap (a:Addr):PlainX X (.slice (some a) 0 0)
theorem PlainX.pl_eq {X:Nat→Prop} {v:Value} (h:PlainX X v):pl (fun b=>XB X b∨gB b=true) v=v:=by
 cases h with
 | int k n=>exact pl_int
 | str s=>exact pl_string
 | snil l c=>exact pl_snil
 | zcap a=>exact pl_zcap
 | slice a l c h =>
   refine qcg ?_
   by_cases hg:gB a.block=true
   ·exact .inr hg
   ·exact .inl ⟨h,hg⟩
theorem qdh {f:FuncId} {args:Array Value} {W:World} {e0 e1:TypeId} {f0 f1:Nat×Nat} {X:Nat→Prop} (hf:cB f=true) (hne:f≠15) (hX:∀b,X b→∃c e f,W.heap[b]? = some (.cells c e f)) (hargs:∀(C:FuncId→Prop) (R:Nat→Nat→Prop),(∀b,X b→R b b)→AR C R args args) (hng:Tryz.prog.globals.size≤W.heap.size)
 (hn:W.heap[1]? = some (.cells #[.int .i64 0,.int .i64 1] e0 f0)) (hc:W.heap[0]? = some (.cells #[fnum,fgrp] e1 f1))
 (hC:∀w,Globs w→(∀b o v,X b→W.cell? ⟨b,o,none⟩=some v→PlainX X v→w.cell? ⟨b,o,none⟩=some v)→Calls qf f args w fun e w'=>e=.returned (.bool true)∧Below w.heap.size w w') :
 ∃N last o w' t',runNT Tryz.prog (N+1) (solo (G (Frame.enter Tryz.prog f args .normal) []) W) #[]=(.ended o w',t')∧runN Tryz.prog N (solo (G (Frame.enter Tryz.prog f args .normal) []) W)=.next last∧step Tryz.prog last=.ended o w' ∧
  Conc.Good Tryz.prog (fun v w'=>(∃_:World,v=.bool true)∧(∀k,k < W.heap.size→w'.heap[k]? = W.heap[k]?)∧W.heap.size≤w'.heap.size∧w'.os=W.os∧w'.output=W.output∧w'.tape=W.tape) last o w' t':=by
 obtain ⟨bs,hbs⟩:∃bs,bs=gBs e0 e1 f0 f1:=⟨_,rfl⟩
 have hGlobs:∀w:World,(∀n,gB n=true→w.heap[n]? = bs[n]?)→Globs w:=fun w h=>qef (e0:=e0) (e1:=e1) (f0:=f0) (f1:=f1) (by rw [← hbs];exact h)
 have hfz:∀n,gB n=true→∃c e hi,bs[n]? = some (.cells c e (0,hi))∧c.size≤hi:=fun n h=>by rw [hbs];exact gBs_fz h
 have hrel:∀(C:FuncId→Prop) (D:FuncId→Code→Prop) (R:Nat→Nat→Prop),C 150→C 151→∀n,gB n=true→∃o o',bs[n]? = some o∧W.heap[n]? = some o'∧OR C D R o o':=fun C D R h1 h2 n h=>by rw [hbs];exact gBs_rel h1 h2 hn hc h
 have hself:∀(C:FuncId→Prop) (D:FuncId→Code→Prop) (R:Nat→Nat→Prop),C 150→C 151→∀n,gB n=true→∃o,bs[n]? = some o∧OR C D R o o:=fun C D R h1 h2 n h=>by rw [hbs];exact gBs_self h1 h2 h
 have hcell:∀b o v,gB b=true→W.cell? ⟨b,o,none⟩=some v→∀w:World,w.heap[b]? = bs[b]?→w.cell? ⟨b,o,none⟩=some v:=fun b o v hg hv w hw=>by
  rw [hbs] at hw
  rcases ZX hg with rfl | rfl
  ·rw [xm] at hw
   unfold World.cell? at hv ⊢
   simp only [hn] at hv
   simp only [hw]
   exact hv
  ·rw [xS] at hw
   unfold World.cell? at hv ⊢
   simp only [hc] at hv
   simp only [hw]
   exact hv
 obtain ⟨n1,n2,n3,n4⟩:=c_num
 obtain ⟨m1,m2⟩:=c_num'
 have hlt:∀n,gB n=true→n < W.heap.size:=fun n h=>by
  obtain ⟨_,_,_,e,_⟩:=hrel (fun _=>True) (fun _ _=>True) (fun _ _=>True) trivial trivial n h
  exact (Array.getElem?_eq_some_iff.1 e).1
 obtain ⟨Ws,hWs⟩:∃Ws,Ws=yL (XB X) (fun n=>gB n=true) bs W:=⟨_,rfl⟩
 obtain ⟨K,hK⟩:∃K,K=Yp qf Tryz.prog cB gB (fun n=>XB X n∨gB n=true) Ws.heap W.heap:=⟨_,rfl⟩
 have hgs:∀n,gB n=true→Ws.heap[n]? = bs[n]? := fun n h=>by
  obtain ⟨o,e,_⟩:=hself (fun _=>True) (fun _ _=>True) (fun _ _=>True) trivial trivial n h
  rw [hWs,e]
  exact yg (hlt n h) h e
 have H:Grounds K c0B gB:=by
  rw [hK]
  refine ⟨cov_o,cov_os,n3,n4,rfl,fun n h=>.inr h,⟨fun n h=>?_,fun n h=>?_⟩,fun n h=>?_,fun w h=>hGlobs w fun n hg=>(h n hg).trans (hgs n hg)⟩
  ·show ∃c e hi,Ws.heap[n]? = _∧_
   rw [hgs n h];exact hfz n h
  ·show ∃o o',Ws.heap[n]? = _∧W.heap[n]? = _∧_
   rw [hgs n h];exact hrel _ _ _ n1 n2 n h
  ·show ∃o,Ws.heap[n]? = _∧_
   rw [hgs n h];exact hself _ _ _ n1 n2 n h
 have hd:∀b,XB X b→¬ gB b=true:=fun b h=>h.2
 have hXX:∀b,XB X b→∃c e f,W.heap[b]? = some (.cells c e f):=fun b h=>hX b h.1
 have hRX:∀b,X b→RS (XB X) (fun n=>gB n=true) b b:=fun b h=>⟨rfl,by
  by_cases hg:gB b=true
  ·exact .inr hg
  ·exact .inl ⟨h,hg⟩⟩
 have h0:W0 (Yp qf Tryz.prog cB gB (fun n=>XB X n∨gB n=true) Ws.heap W.heap) (RS (XB X) fun n=>gB n=true) Ws W:=by
  rw [hWs];exact qck hXX hng (hrel _ _ _ m1 m2) hfz hd fun b=>Iff.rfl
 have h0s:W0 (Yp qf qf cB gB (fun n=>XB X n∨gB n=true) Ws.heap W.heap) (RS (XB X) fun n=>gB n=true) Ws Ws:=by
  rw [hWs];exact Xz hXX hng (fun b h=>⟨hlt b h,hself _ _ _ m1 m2 b h⟩) hfz hd fun b=>Iff.rfl
 have hcells:∀b o v,X b→W.cell? ⟨b,o,none⟩=some v→PlainX X v→Ws.cell? ⟨b,o,none⟩=some v:=fun b o v hb hv hp=>by
  by_cases hg:gB b=true
  ·exact hcell b o v hg hv Ws (hgs b hg)
  ·rw [hWs,Xy hv ⟨hb,hg⟩ hg,hp.pl_eq]
 rw [hK] at H
 refine qbo (cov_a _ Ws.heap W.heap) (cov_as (fun n=>XB X n∨gB n=true) Ws.heap W.heap) (Post:=fun v _=>v=.bool true) (qbh (cov_a _ Ws.heap W.heap) (cov_as _ _ _) (show cB 42=true by decide +kernel) H) hf hne (hargs _ _ hRX) (hargs _ _ hRX) hf h0 h0s (by rw [hWs];exact YS hfz) (fun n h=>⟨rfl,.inr h⟩) (fun b c h=>h.2) (fun n h=>⟨⟨rfl,h⟩,rfl,rfl⟩) (fun _ _ _ h=>h) (fun v _ h=>by rw [h];rfl) fun t=>?_
 refine (hC (Ws.tp t) ?_ ?_).mono fun e w' ⟨h1,_⟩=>⟨_,h1,rfl⟩
 ·exact globs_tp (hGlobs Ws hgs)
 ·exact hcells
end Go.Proofs.Tryz
