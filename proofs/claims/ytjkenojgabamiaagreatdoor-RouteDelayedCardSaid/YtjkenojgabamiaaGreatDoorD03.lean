/-
  Lemmas about the program and the machine (TrO to Rets), upon which the last text of this claim rests; no condition.
-/
import Derived.KernelRfl
import Derived.Handy
import Derived.Laws.Tables
import Derived.Laws.Build
import Derived.Conc.BesideWords
import Derived.Test.YtjkenojgabamiaaGreatDoorCards
import Derived.Test.YtjkenojgabamiaaGreatDoorTie
import Derived.ProofKit
import Derived.LaidMore
import Derived.OpenShut
import Derived.Stop.Joined
import Derived.Conc.Holds
import Derived.Conc.LeavingOf
import Derived.SevenTiedAt
import Derived.ChangeCalls
import Derived.Deep.QuietTactic
import Derived.BigQuiet
import Derived.Lib.Hide
import Derived.RegionTactic
import Derived.LoopTactic
import Derived.Outline
import Derived.Below
import Derived.Lib.SmallJoins
import Derived.Deep.SlicePairs
import Derived.ChangeSlices
import Derived.WideShapes
import Derived.Deep.Slices
import Derived.ChangeArms
import Derived.Deep.RegionHeld3
import Derived.Deep.Cut
import Derived.Deep.CutRange
import Derived.Deep.DeepCutAuto
import Derived.Deep.Light
import Derived.Test.YtjkenojgabamiaaGreatDoorD02
set_option linter.unusedSimpArgs false
set_option linter.unusedVariables false
namespace Go.Proofs.Tryz
open Go Go.Conc Go.Sim
def opsOf:Code→Array Oper
 | .region _ ops _=>ops
 | _=>#[]
noncomputable def Zu:Code:=Tryz.f70.body.getD .skip
noncomputable def tO0:Array Oper:=match Zu with | .seq c _=>opsOf c | _=>#[]
noncomputable def tO1:Array Oper:=match Zu with | .seq _ (.seq c _)=>opsOf c | _=>#[]
noncomputable def tO2:Array Oper:=match Zu with | .seq _ (.seq _ (.seq c _))=>opsOf c | _=>#[]
noncomputable def tO3:Array Oper:=match Zu with | .seq _ (.seq _ (.seq _ (.seq c _)))=>opsOf c | _=>#[]
noncomputable def tO4:Array Oper:=match Zu with | .seq _ (.seq _ (.seq _ (.seq _ (.seq (.seq c _) _))))=>opsOf c | _=>#[]
noncomputable def tL:Code:=match Zu with | .seq _ (.seq _ (.seq _ (.seq _ (.seq (.seq _ (.block _ (.loop c))) _))))=>c | _=>.skip
noncomputable def tO5:Array Oper:=match tL with | .seq c _=>opsOf c | _=>#[]
noncomputable def tO6:Array Oper:=match tL with | .seq _ (.seq _ (.block _ c))=>opsOf c | _=>#[]
noncomputable def tO7:Array Oper:=match Zu with | .seq _ (.seq _ (.seq _ (.seq _ (.seq _ (.seq c _)))))=>opsOf c | _=>#[]
theorem t_body:Zu=.seq (.region 0 tO0 false) (.seq (.region 1 tO1 false) (.seq (.region 2 tO2 false) (.seq (.region 3 tO3 false) (.seq (.seq (.region 4 tO4 false) (.block 0 (.loop tL))) (.seq (.region 7 tO7 false) .ret))))):=by kernel_rfl
theorem t_L:tL=.seq (.region 5 tO5 false) (.seq (.cond (.tmp 15) .skip (.exit 0)) (.block 1 (.region 6 tO6 false))):=by kernel_rfl
noncomputable def tO (r k:Nat):Oper:=((match r with | 0=>tO0 | 1=>tO1 | 2=>tO2 | 3=>tO3 | 4=>tO4 | 5=>tO5 | 6=>tO6 | _=>tO7)[k]?).getD default
noncomputable def qdx:Code:=Tryz.f102.body.getD .skip
noncomputable def kO0:Array Oper:=match qdx with | .seq c _=>opsOf c | _=>#[]
noncomputable def kO1:Array Oper:=match qdx with | .seq _ c=>opsOf c | _=>#[]
theorem k_body:qdx=.seq (.region 0 kO0 false) (.region 1 kO1 true):=by kernel_rfl
noncomputable def kO (r k:Nat):Oper:=((match r with | 0=>kO0 | _=>kO1)[k]?).getD default
theorem QY:Tryz.prog.funcs[70]? = some Tryz.f70:=by kernel_rfl
theorem YW:Tryz.prog.funcs[85]? = some Tryz.f85:=by kernel_rfl
theorem t_size0:tO0.size=5:=by kernel_rfl
theorem t_at0_0:tO0[0]? = some (tO 0 0):=by kernel_rfl
theorem t_g0_0:(tO 0 0).guard=none:=by kernel_rfl
theorem t_d0_0:(tO 0 0).dst=some 4:=by kernel_rfl
theorem t_op0_0:(tO 0 0).op=.box 74 (.tmp 0):=by kernel_rfl
theorem t_at0_1:tO0[1]? = some (tO 0 1):=by kernel_rfl
theorem t_g0_1:(tO 0 1).guard=none:=by kernel_rfl
theorem t_d0_1:(tO 0 1).dst=some 5:=by kernel_rfl
theorem t_op0_1:(tO 0 1).op=.box 75 (.tmp 1):=by kernel_rfl
theorem t_at0_2:tO0[2]? = some (tO 0 2):=by kernel_rfl
theorem t_g0_2:(tO 0 2).guard=none:=by kernel_rfl
theorem t_d0_2:(tO 0 2).dst=some 6:=by kernel_rfl
theorem t_op0_2:(tO 0 2).op=.box 87 (.tmp 2):=by kernel_rfl
theorem t_at0_3:tO0[3]? = some (tO 0 3):=by kernel_rfl
theorem t_g0_3:(tO 0 3).guard=none:=by kernel_rfl
theorem t_d0_3:(tO 0 3).dst=some 7:=by kernel_rfl
theorem t_op0_3:(tO 0 3).op=.box 82 (.tmp 3):=by kernel_rfl
theorem t_at0_4:tO0[4]? = some (tO 0 4):=by kernel_rfl
theorem t_g0_4:(tO 0 4).guard=none:=by kernel_rfl
theorem t_d0_4:(tO 0 4).dst=some 8:=by kernel_rfl
theorem t_op0_4:(tO 0 4).op=.assign (.const (.int .i64 0)):=by kernel_rfl
theorem t_size1:tO1.size=3:=by kernel_rfl
theorem t_at1_0:tO1[0]? = some (tO 1 0):=by kernel_rfl
theorem t_g1_0:(tO 1 0).guard=none:=by kernel_rfl
theorem t_d1_0:(tO 1 0).dst=some 11:=by kernel_rfl
theorem t_op1_0:(tO 1 0).op=.makeChan 139 (.const (.int .i64 0)):=by kernel_rfl
theorem t_at1_1:tO1[1]? = some (tO 1 1):=by kernel_rfl
theorem t_g1_1:(tO 1 1).guard=none:=by kernel_rfl
theorem t_d1_1:(tO 1 1).dst=some 9:=by kernel_rfl
theorem t_op1_1:(tO 1 1).op=.alloc 139:=by kernel_rfl
theorem t_at1_2:tO1[2]? = some (tO 1 2):=by kernel_rfl
theorem t_g1_2:(tO 1 2).guard=none:=by kernel_rfl
theorem t_d1_2:(tO 1 2).dst=none:=by kernel_rfl
theorem t_op1_2:(tO 1 2).op=.store 139 (.tmp 9) (.tmp 11):=by kernel_rfl
theorem t_size2:tO2.size=2:=by kernel_rfl
theorem t_at2_0:tO2[0]? = some (tO 2 0):=by kernel_rfl
theorem t_g2_0:(tO 2 0).guard=none:=by kernel_rfl
theorem t_d2_0:(tO 2 0).dst=some 12:=by kernel_rfl
theorem t_op2_0:(tO 2 0).op=.makeFunc (.func 102) #[] #[.tmp 9,.tmp 4,.tmp 5,.tmp 6,.tmp 7]:=by kernel_rfl
theorem t_at2_1:tO2[1]? = some (tO 2 1):=by kernel_rfl
theorem t_g2_1:(tO 2 1).guard=none:=by kernel_rfl
theorem t_d2_1:(tO 2 1).dst=none:=by kernel_rfl
theorem t_op2_1:(tO 2 1).op=.go { callee:=.value (.tmp 12),args:=#[],argTypes:=#[] }:=by kernel_rfl
theorem t_size3:tO3.size=1:=by kernel_rfl
theorem t_at3_0:tO3[0]? = some (tO 3 0):=by kernel_rfl
theorem t_g3_0:(tO 3 0).guard=none:=by kernel_rfl
theorem t_d3_0:(tO 3 0).dst=some 10:=by kernel_rfl
theorem t_op3_0:(tO 3 0).op=.assign (.const (.int .i64 0)):=by kernel_rfl
theorem t_size4:tO4.size=1:=by kernel_rfl
theorem t_at4_0:tO4[0]? = some (tO 4 0):=by kernel_rfl
theorem t_g4_0:(tO 4 0).guard=none:=by kernel_rfl
theorem t_d4_0:(tO 4 0).dst=some 13:=by kernel_rfl
theorem t_op4_0:(tO 4 0).op=.load 139 (.tmp 9):=by kernel_rfl
theorem t_size5:tO5.size=2:=by kernel_rfl
theorem qeG:tO5[0]? = some (tO 5 0):=by kernel_rfl
theorem t_g5_0:(tO 5 0).guard=none:=by kernel_rfl
theorem t_d5_0:(tO 5 0).dst=some 14:=by kernel_rfl
theorem t_op5_0:(tO 5 0).op=.recv 139 (.tmp 13) true:=by kernel_rfl
theorem qeH:tO5[1]? = some (tO 5 1):=by kernel_rfl
theorem t_g5_1:(tO 5 1).guard=none:=by kernel_rfl
theorem t_d5_1:(tO 5 1).dst=some 15:=by kernel_rfl
theorem qeI:(tO 5 1).op=.extract (.tmp 14) 1:=by kernel_rfl
theorem t_size6:tO6.size=2:=by kernel_rfl
theorem t_at6_0:tO6[0]? = some (tO 6 0):=by kernel_rfl
theorem t_g6_0:(tO 6 0).guard=none:=by kernel_rfl
theorem t_d6_0:(tO 6 0).dst=some 16:=by kernel_rfl
theorem t_op6_0:(tO 6 0).op=.extract (.tmp 14) 0:=by kernel_rfl
theorem t_at6_1:tO6[1]? = some (tO 6 1):=by kernel_rfl
theorem t_g6_1:(tO 6 1).guard=none:=by kernel_rfl
theorem t_d6_1:(tO 6 1).dst=some 10:=by kernel_rfl
theorem t_op6_1:(tO 6 1).op=.assign (.tmp 16):=by kernel_rfl
theorem t_size7:tO7.size=2:=by kernel_rfl
theorem t_at7_0:tO7[0]? = some (tO 7 0):=by kernel_rfl
theorem t_g7_0:(tO 7 0).guard=none:=by kernel_rfl
theorem t_d7_0:(tO 7 0).dst=some 17:=by kernel_rfl
theorem t_op7_0:(tO 7 0).op=.move (.tmp 10):=by kernel_rfl
theorem t_at7_1:tO7[1]? = some (tO 7 1):=by kernel_rfl
theorem t_g7_1:(tO 7 1).guard=none:=by kernel_rfl
theorem t_d7_1:(tO 7 1).dst=some 8:=by kernel_rfl
theorem t_op7_1:(tO 7 1).op=.assign (.tmp 17):=by kernel_rfl
theorem k_size0:kO0.size=2:=by kernel_rfl
theorem k_at0_0:kO0[0]? = some (kO 0 0):=by kernel_rfl
theorem k_g0_0:(kO 0 0).guard=none:=by kernel_rfl
theorem k_d0_0:(kO 0 0).dst=some 5:=by kernel_rfl
theorem k_op0_0:(kO 0 0).op=.load 139 (.tmp 0):=by kernel_rfl
theorem qdy:kO0[1]? = some (kO 0 1):=by kernel_rfl
theorem k_g0_1:(kO 0 1).guard=none:=by kernel_rfl
theorem k_d0_1:(kO 0 1).dst=none:=by kernel_rfl
theorem qdC:(kO 0 1).op=.defer { callee:=.builtin .close,args:=#[.tmp 5],argTypes:=#[139] }:=by kernel_rfl
theorem k_size1:kO1.size=10:=by kernel_rfl
theorem qdz:kO1[0]? = some (kO 1 0):=by kernel_rfl
theorem k_g1_0:(kO 1 0).guard=none:=by kernel_rfl
theorem k_d1_0:(kO 1 0).dst=some 6:=by kernel_rfl
theorem qdD:(kO 1 0).op=.load 139 (.tmp 0):=by kernel_rfl
theorem k_at1_1:kO1[1]? = some (kO 1 1):=by kernel_rfl
theorem k_g1_1:(kO 1 1).guard=none:=by kernel_rfl
theorem k_d1_1:(kO 1 1).dst=some 7:=by kernel_rfl
theorem k_op1_1:(kO 1 1).op=.fieldAddr 74 (.tmp 1) 0:=by kernel_rfl
theorem k_at1_2:kO1[2]? = some (kO 1 2):=by kernel_rfl
theorem k_g1_2:(kO 1 2).guard=none:=by kernel_rfl
theorem k_d1_2:(kO 1 2).dst=some 8:=by kernel_rfl
theorem k_op1_2:(kO 1 2).op=.load 28 (.tmp 7):=by kernel_rfl
theorem k_at1_3:kO1[3]? = some (kO 1 3):=by kernel_rfl
theorem k_g1_3:(kO 1 3).guard=none:=by kernel_rfl
theorem k_d1_3:(kO 1 3).dst=some 9:=by kernel_rfl
theorem k_op1_3:(kO 1 3).op=.makeMap 72 none:=by kernel_rfl
theorem k_at1_4:kO1[4]? = some (kO 1 4):=by kernel_rfl
theorem k_g1_4:(kO 1 4).guard=none:=by kernel_rfl
theorem k_d1_4:(kO 1 4).dst=some 10:=by kernel_rfl
theorem qdE:(kO 1 4).op=.build 74 #[(0,.tmp 8),(1,.tmp 9)]:=by kernel_rfl
theorem k_at1_5:kO1[5]? = some (kO 1 5):=by kernel_rfl
theorem k_g1_5:(kO 1 5).guard=none:=by kernel_rfl
theorem k_d1_5:(kO 1 5).dst=some 11:=by kernel_rfl
theorem k_op1_5:(kO 1 5).op=.load 75 (.tmp 2):=by kernel_rfl
theorem k_at1_6:kO1[6]? = some (kO 1 6):=by kernel_rfl
theorem k_g1_6:(kO 1 6).guard=none:=by kernel_rfl
theorem k_d1_6:(kO 1 6).dst=some 12:=by kernel_rfl
theorem k_op1_6:(kO 1 6).op=.load 87 (.tmp 3):=by kernel_rfl
theorem k_at1_7:kO1[7]? = some (kO 1 7):=by kernel_rfl
theorem k_g1_7:(kO 1 7).guard=none:=by kernel_rfl
theorem k_d1_7:(kO 1 7).dst=some 13:=by kernel_rfl
theorem k_op1_7:(kO 1 7).op=.load 82 (.tmp 4):=by kernel_rfl
theorem qdA:kO1[8]? = some (kO 1 8):=by kernel_rfl
theorem k_g1_8:(kO 1 8).guard=none:=by kernel_rfl
theorem k_d1_8:(kO 1 8).dst=some 14:=by kernel_rfl
theorem qdF:(kO 1 8).op=.call { callee:=.value (.func 85),args:=#[.tmp 10,.tmp 11,.tmp 12,.tmp 13],argTypes:=#[74,75,87,82] }:=by kernel_rfl
theorem qdB:kO1[9]? = some (kO 1 9):=by kernel_rfl
theorem k_g1_9:(kO 1 9).guard=none:=by kernel_rfl
theorem k_d1_9:(kO 1 9).dst=none:=by kernel_rfl
theorem qdG:(kO 1 9).op=.send (.tmp 6) (.tmp 14):=by kernel_rfl
end Go.Proofs.Tryz
namespace Go.Proofs.Tryz
open Go Go.Sim
theorem qR:qj.toTables=prog.toTables:=by unfold qj;rfl
@[go_sem] theorem qy (t:TypeId):qj.underlying t=prog.underlying t:=qbo qR _
@[go_sem] theorem qbm (t:TypeId):qj.info? t=prog.info? t:=XZ qR _
@[go_sem] theorem src_runUnd (t:TypeId) (w:World):(Go.underlying t).run qj w=(Go.underlying t).run prog w:=Zn qR _ _
@[go_sem] theorem src_runInfo (t:TypeId) (w:World):(Go.typeInfo t).run qj w=(Go.typeInfo t).run prog w:=xM qR _ _
@[go_sem] theorem src_depth:qj.depth=prog.depth:=qbH qR
@[go_sem] theorem src_cellsOf (t:TypeId):qj.cellsOf t=prog.cellsOf t:=XM qR _
@[go_sem] theorem src_globals:qj.globals=prog.globals:=XU qR
@[go_sem] theorem qH (t:TypeId) (w:World):(Go.isAgg t).run qj w=(Go.isAgg t).run prog w:=YB qR _ _
@[go_sem] theorem qA (t:TypeId) (w:World):(Go.sizeOf t).run qj w=(Go.sizeOf t).run prog w:=Yp qR _ _
@[go_sem] theorem qw (t:TypeId) (w:World):(Go.zeroValue t).run qj w=(Go.zeroValue t).run prog w:=Qx qR _ _
theorem Qy:qj.funcs[70]? = some qeD:=by kernel_rfl
noncomputable def okF (n:Nat):Bool:=match qj.funcs[n]? with
 | some fn => !(fn.name == "runtime.NumGoroutine") && fn.body.isSome
 | none=>false
theorem cE (n:Nat) (h1:okF n=true) (args:Array Value) (w:World):(callFunc n args).run qj w=.ok (.enter n args) w:=by
 unfold okF at h1
 cases e:qj.funcs[n]? with
 | none=>rw [e] at h1;cases h1
 | some fn =>
   rw [e] at h1
   have h2:=(Bool.and_eq_true _ _).mp h1
   exact enter_of e (by simpa using h2.1) h2.2 args w
theorem okF_all:∀n,n < 146→n < 2∨okF n=true:=by decide +kernel
theorem okF_all2:∀n,n < 176→n < 163∨okF n=true:=by decide +kernel
@[go_sem] theorem cA (n:Nat) (h0:2≤n) (h:n < 146) (args:Array Value) (w:World):(callFunc n args).run qj w=.ok (.enter n args) w:=cE n ((okF_all n h).resolve_left (by omega)) args w
@[go_sem] theorem cB (n:Nat) (h0:163≤n) (h:n < 176) (args:Array Value) (w:World):(callFunc n args).run qj w=.ok (.enter n args) w:=cE n ((okF_all2 n h).resolve_left (by omega)) args w
@[go_sem] theorem c161 (args:Array Value) (w:World):(callFunc 161 args).run qj w=.ok (.enter 161 args) w:=cE 161 (by decide +kernel) args w
theorem sf (n:Nat) (f:Func) (h:qj.funcs[n]? = some f:=by kernel_rfl):qj.funcs[n]? = some f:=h
end Go.Proofs.Tryz
section
namespace Go.Proofs.Tryz
open Go Go.Conc Go.Sim Go.RowKit
open Go.ConcN (upd upd_ne upd_same)
def sb:Frame:=base 70
theorem YC:sb.kind≠.early:=qcI _
theorem qeE (xs:Array Value):Frame.enter qj 70 xs .normal=sb.at ⟨fT 17 (JG 17 xs),[]⟩ [.code Qb]:=qaR xs Qy rfl rfl
def boxes (w:World) (x0 x1 x2 x3:Value):World:=(((w.alloc (.cells x0.cells 74 (0,0))).alloc (.cells x1.cells 75 (0,0))).alloc (.cells x2.cells 87 (0,0))).alloc (.cells x3.cells 82 (0,0))
section
variable {w:World} {x0 x1 x2 x3:Value}
theorem xm (w:World) (o:Obj):(w.alloc o).heap[w.heap.size]? = some o:=by show (w.heap.push o)[w.heap.size]? = _;simp
theorem qK (w:World) (o:Obj) {b:Nat} (h:b < w.heap.size):(w.alloc o).heap[b]? = w.heap[b]? := by show (w.heap.push o)[b]? = _;rw [Array.getElem?_push_lt h,Array.getElem?_eq_getElem h]
theorem qP (w:World) (o:Obj):(w.alloc o).heap.size=w.heap.size+1:=by show (w.heap.push o).size=_;simp
theorem qQ:(boxes w x0 x1 x2 x3).heap.size=w.heap.size+4:=by unfold boxes;simp only [qP]
theorem Qf {b:Nat} (h:b < w.heap.size):(boxes w x0 x1 x2 x3).heap[b]? = w.heap[b]? := by
 unfold boxes
 rw [qK _ _ (by simp only [qP];omega),qK _ _ (by simp only [qP];omega),qK _ _ (by simp only [qP];omega),qK _ _ h]
theorem QG:(boxes w x0 x1 x2 x3).heap[w.heap.size]? = some (.cells x0.cells 74 (0,0)):=by
 unfold boxes
 rw [qK _ _ (by simp only [qP];omega),qK _ _ (by simp only [qP];omega),qK _ _ (by simp only [qP];omega),xm]
theorem QH:(boxes w x0 x1 x2 x3).heap[w.heap.size+1]? = some (.cells x1.cells 75 (0,0)):=by
 unfold boxes
 rw [qK _ _ (by simp only [qP];omega),qK _ _ (by simp only [qP];omega),← qP w (.cells x0.cells 74 (0,0)),xm]
theorem QI:(boxes w x0 x1 x2 x3).heap[w.heap.size+2]? = some (.cells x2.cells 87 (0,0)):=by
 unfold boxes
 rw [qK _ _ (by simp only [qP];omega)]
 have e:w.heap.size+2=((w.alloc (.cells x0.cells 74 (0,0))).alloc (.cells x1.cells 75 (0,0))).heap.size:=by simp only [qP]
 rw [e,xm]
theorem QJ:(boxes w x0 x1 x2 x3).heap[w.heap.size+3]? = some (.cells x3.cells 82 (0,0)):=by
 unfold boxes
 have e:w.heap.size+3=(((w.alloc (.cells x0.cells 74 (0,0))).alloc (.cells x1.cells 75 (0,0))).alloc (.cells x2.cells 87 (0,0))).heap.size:=by simp only [qP]
 rw [e,xm]
end
section
variable {P:Program} {w w1:World}
theorem load_agg {t:TypeId} {ad:Addr} {c:Array Value} {e:TypeId} {f:Nat×Nat} {v:Value} {n:Nat} (hb:w.heap[ad.block]? = some (.cells c e f)) (ha:∀w,(isAgg t).run P w=.ok true w) (hs:∀w,(sizeOf t).run P w=.ok n w) (hr:(Instr.loadAt t (.pointer (some ad))).run P w=.ok v w1):∃xs,v=.agg xs∧xs.size=n:=by
 unfold Instr.loadAt at hr
 have h1:∀w,(Instr.sureAddr (.pointer (some ad))).run P w=.ok ad w:=fun w=>by simp [Instr.sureAddr]
 simp only [Sem.run_bind,h1,Result.andThen_ok] at hr
 unfold Go.loadVar Go.loadCells at hr
 simp only [Sem.run_bind,ha,hs,Result.andThen_ok,if_true] at hr
 have key:∀(k i:Nat) (acc xs:Array Value) (w2:World),(loadCellsFrom ad i k acc).run P w=.ok xs w2→xs.size=acc.size+k:=by
  intro k
  induction k with
  | zero=>intro i acc xs w2 h;simp [loadCellsFrom] at h;rw [h.1];simp
  | succ k ih =>
    intro i acc xs w2 h
    simp only [loadCellsFrom,Sem.run_bind] at h
    cases hl:(load (ad.add i)).run P w with
    | halt x wx=>rw [hl] at h;simp at h
    | ok y wx =>
      obtain ⟨hwx,_⟩:=qad (by rw [add_block];exact hb) hl
      rw [hl,Result.andThen_ok,hwx] at h
      have:=ih _ _ _ _ h
      simp at this
      omega
 cases hl:(loadCellsFrom ad 0 n #[]).run P w with
 | halt x wx=>rw [hl] at hr;simp at hr
 | ok xs wx =>
   rw [hl] at hr
   simp only [Result.andThen_ok,Sem.run_pure,Result.ok.injEq] at hr
   have:=key _ _ _ _ _ hl
   exact ⟨xs,hr.1.symm,by simpa using this⟩
end
theorem agg5 {xs:Array Value} (h:xs.size=5):∃a b c d e,xs=#[a,b,c,d,e]:=by
 obtain ⟨l⟩:=xs
 match l,h with
 | [a,b,c,d,e],_=>exact ⟨a,b,c,d,e,rfl⟩
section
variable {K:Cfg} {g:Nat→Bool} {Fin:Goroutine→World→Prop} {q0:Goroutine} {w0 w w1:World} {c:Nat→Bool} {v:Nat→Value} {cf:Frame} {cr:List Frame}
abbrev SD (K:Cfg) (g:Nat→Bool) (Fin:Goroutine→World→Prop) (q0:Goroutine) (w0:World) (v:Nat→Value) (kk:List Item) (cs:List Frame) (w:World):Prop:=Dn K qj g Fin q0 w0 (G (sb.at ⟨fT 17 v,[]⟩ kk) cs) w
structure Loaded (P:Program) (w:World) (B:Nat) (y0 y1 y2 y3 y4 lv sv mv:Value):Prop where
 d:(Instr.loadAt 28 (.pointer (some ⟨B,0,none⟩))).run P w=.ok (.agg #[y0,y1,y2,y3,y4]) w
 l:(Instr.loadAt 75 (.pointer (some ⟨B+1,0,none⟩))).run P w=.ok lv w
 s:(Instr.loadAt 87 (.pointer (some ⟨B+2,0,none⟩))).run P w=.ok sv w
 m:(Instr.loadAt 82 (.pointer (some ⟨B+3,0,none⟩))).run P w=.ok mv w
theorem qdf {ev:Operand→Value} {o:Oper} {x:Operand} {b:Nat} (hop:o.op=.fieldAddr 74 x 0) (hx:ev x=.pointer (some ⟨b,0,none⟩)):(execOp ev o).run qj w=.ok (.value (.pointer (some ⟨b,0,none⟩))) w:=by
 unfold execOp
 simp only [hop,hx]
 go_simp
theorem qbJ {ev:Operand→Value} {o:Oper} {x:Operand} {b:Nat} (hop:o.op=.fieldAddr 74 x 0) (hx:ev x=.pointer (some ⟨b,0,none⟩)):(execOp ev o).run Tryz.prog w=.ok (.value (.pointer (some ⟨b,0,none⟩))) w∧(execOp ev o).events Tryz.prog w #[]=#[]:=by
 constructor
 ·unfold execOp
  simp only [hop,hx]
  go_simp
 ·unfold execOp
  simp only [hop,hx]
  simp [go_sem,Instr.fieldAt]
theorem qbB {Q P:Program} (h:Q.toTables=P.toTables) (t:TypeId) (l:List (Nat×Value)):Q.built t l=P.built t l:=by
 obtain ⟨T',f'⟩:=Q;obtain ⟨T,f⟩:=P;simp only at h;subst h;rfl
theorem qbF (y0 y1 y2 y3 y4:Value) (b:Nat):Tryz.prog.built 74 [(0,.agg #[y0,y1,y2,y3,y4]),(1,.map (some b))]=some #[y0,y1,y2,y3,y4,.map (some b)]:=by kernel_rfl
theorem XO (P:Program) (hP:P.toTables=Tryz.prog.toTables) (y0 y1 y2 y3 y4:Value) (b:Nat):P.built 74 [(0,.agg #[y0,y1,y2,y3,y4]),(1,.map (some b))]=some #[y0,y1,y2,y3,y4,.map (some b)]:=(qbB hP _ _).trans (qbF ..)
theorem qcR {P:Program} (hP:P.toTables=Tryz.prog.toTables) {ev:Operand→Value} {o:Oper} {x m:Operand} {y0 y1 y2 y3 y4:Value} {b:Nat} (hop:o.op=.build 74 #[(0,x),(1,m)]) (hx:ev x=.agg #[y0,y1,y2,y3,y4]) (hm:ev m=.map (some b)):(execOp ev o).run P w=.ok (.value (.agg #[y0,y1,y2,y3,y4,.map (some b)])) w:=by
 have h:=run_build (P:=P) w 74 #[(0,.agg #[y0,y1,y2,y3,y4]),(1,.map (some b))] _ (XO P hP y0 y1 y2 y3 y4 b)
 unfold execOp
 simp only [hop,List.map_toArray,List.map_cons,List.map_nil,hx,hm,Sem.run_bind,h,Result.andThen_ok,Sem.run_pure]
theorem qbG {ev:Operand→Value} {o:Oper} {x m:Operand} {y0 y1 y2 y3 y4:Value} {b:Nat} (hop:o.op=.build 74 #[(0,x),(1,m)]) (hx:ev x=.agg #[y0,y1,y2,y3,y4]) (hm:ev m=.map (some b)):(execOp ev o).events Tryz.prog w #[]=#[]:=by
 have h:=run_build (P:=Tryz.prog) w 74 #[(0,.agg #[y0,y1,y2,y3,y4]),(1,.map (some b))] _ (XO Tryz.prog rfl y0 y1 y2 y3 y4 b)
 unfold execOp
 simp only [hop,List.map_toArray,List.map_cons,List.map_nil,hx,hm,Sem.events_bind,h,Result.evThen_ok,Sem.events_pure]
 simp [go_sem,Instr.build]
theorem Dn.leave1 {P':Program} (Z:Cov K P' P' c g (fun _=>False)) {b:Frame} {T:Array Value} {kk:List Item} {fn:Func} {t:Nat} (h:Dn K P' g Fin q0 w0 (G (b.at ⟨T,[]⟩ (.code .ret :: kk)) (cf :: cr)) w) (hcr:cr≠[]) (hn:b.kind=.normal) (hf:P'.funcs[b.fn]? = some fn) (hr:fn.results=#[.tmp t]) :
 Dn K P' g Fin q0 w0 (G (cf.finish (T.getD t undef)) cr) w:=by
 have h1:=h.step Z ym stepG_ret'
 refine h1.step Z (fun hl=>?_) (stepG_leave hn rfl hf (results_tmp hr _ P' w) (events_results_tmp hr _ _))
 have:=hl.2.2
 simp only [G,List.cons.injEq] at this
 exact hcr this.2
theorem src_back (Zs:Cov K qj qj c g (fun _=>False)) (hcr:cr≠[]) {y:Value} (hD:Dn K qj g Fin q0 w0 (G (sb.at (Go.Act.put ⟨fT 17 v,[]⟩ ((sO[11]?).bind (·.dst)) y) (.inRegion sO [12] :: [.code .ret])) (cf :: cr)) w):Dn K qj g Fin q0 w0 (G (cf.finish y) cr) w:=by
 rw [show (sO[11]?).bind (·.dst)=some 16 from rfl,yg (by decide)] at hD
 replace hD:=hD.valF (x:=y) Zs YC sO[12] 8 rfl rfl rfl (by decide) (w1:=w) (by
  unfold execOp
  simp only [show sO[12].op=.assign (.tmp 16) from rfl,qE (show 16 < 17 by decide),upd_same]
  go_simp)
 replace hD:=hD.rend Zs
 have:=Dn.leave1 Zs hD hcr rfl Qy (t:=8) (by kernel_rfl)
 rw [qda (by decide),upd_same] at this
 exact this
theorem src_call (Zs:Cov K qj qj c g (fun _=>False)) {x y z u:Value} (hD:SD K g Fin q0 w0 v (.inRegion sO [11,12] :: [.code .ret]) (cf :: cr) w) (h15:v 15=x) (h12:v 12=y) (h13:v 13=z) (h14:v 14=u) :
 Dn K qj g Fin q0 w0 (G (Frame.enter qj 85 #[x,y,z,u] .normal) (sb.at ⟨fT 17 v,[]⟩ (.inRegion sO [11,12] :: [.code .ret]) :: cf :: cr)) w:=by
 replace hD:=Dn.step Zs hD ym (stepG_enter (o:=sO[11]) rfl (by unfold Region.wanted;rfl) YC (run_call_body (o:=sO[11]) (f:=85) (args:=#[.tmp 15,.tmp 12,.tmp 13,.tmp 14]) (ats:=#[74,75,87,82]) rfl (sf 85 f85) (by kernel_rfl) (by kernel_rfl)))
 have e:(#[Operand.tmp 15,.tmp 12,.tmp 13,.tmp 14]).map (Go.Act.eval ⟨fT 17 v,[]⟩)=#[x,y,z,u]:=by
  simp only [List.map_toArray,List.map_cons,List.map_nil]
  rw [qE (by decide),qE (by decide),qE (by decide),qE (by decide),h15,h12,h13,h14]
 rw [e] at hD
 exact hD
theorem src_walk (Zs:Cov K qj qj c g (fun _=>False)) {xs:Array Value} (hD:SD K g Fin q0 w0 (JG 17 xs) [.code Qb] (cf :: cr) w) :
 ∃(v:Nat→Value) (y0 y1 y2 y3 y4 lv sv mv:Value),Loaded qj ((boxes w (xs.getD 0 undef) (xs.getD 1 undef) (xs.getD 2 undef) (xs.getD 3 undef)).alloc (.map #[] 0)) w.heap.size y0 y1 y2 y3 y4 lv sv mv ∧
  Dn K qj g Fin q0 w0 (G (Frame.enter qj 85 #[.agg #[y0,y1,y2,y3,y4,.map (some (w.heap.size+4))],lv,sv,mv] .normal) (sb.at ⟨fT 17 v,[]⟩ (.inRegion sO [11,12] :: [.code .ret]) :: cf :: cr)) ((boxes w (xs.getD 0 undef) (xs.getD 1 undef) (xs.getD 2 undef) (xs.getD 3 undef)).alloc (.map #[] 0)):=by
 replace hD:=(hD.seq Zs).region Zs
 change SD K g Fin q0 w0 _ (.inRegion sO [0,1,2,3,4,5,6,7,8,9,10,11,12] :: _) _ w at hD
 obtain ⟨x0,e0⟩:∃x,x=xs.getD 0 undef:=⟨_,rfl⟩
 obtain ⟨x1,e1⟩:∃x,x=xs.getD 1 undef:=⟨_,rfl⟩
 obtain ⟨x2,e2⟩:∃x,x=xs.getD 2 undef:=⟨_,rfl⟩
 obtain ⟨x3,e3⟩:∃x,x=xs.getD 3 undef:=⟨_,rfl⟩
 rw [← e0,← e1,← e2,← e3]
 obtain ⟨v0,hv0⟩:∃v,v=JG 17 xs:=⟨_,rfl⟩
 have k0:v0 0=x0:=by rw [hv0,e0];rfl
 have k1:v0 1=x1:=by rw [hv0,e1];rfl
 have k2:v0 2=x2:=by rw [hv0,e2];rfl
 have k3:v0 3=x3:=by rw [hv0,e3];rfl
 rw [← hv0] at hD
 clear hv0 e0 e1 e2 e3
 replace hD:=hD.valF Zs YC _ 4 rfl rfl rfl (by decide) (ZL (z:=x0) rfl (by rw [qE (by decide)];exact k0) _).1
 replace hD:=hD.valF Zs YC _ 5 rfl rfl rfl (by decide) (ZL (z:=x1) rfl (by rw [qE (by decide)];simp [upd];exact k1) _).1
 replace hD:=hD.valF Zs YC _ 6 rfl rfl rfl (by decide) (ZL (z:=x2) rfl (by rw [qE (by decide)];simp [upd];exact k2) _).1
 replace hD:=hD.valF Zs YC _ 7 rfl rfl rfl (by decide) (ZL (z:=x3) rfl (by rw [qE (by decide)];simp [upd];exact k3) _).1
 change SD K g Fin q0 w0 _ _ _ (boxes w x0 x1 x2 x3) at hD
 simp only [qP] at hD
 replace hD:=hD.valF Zs YC _ 9 rfl rfl rfl (by decide) (qdR rfl _).1
 rw [qQ] at hD
 obtain ⟨ws,hws⟩:∃ws,ws=(boxes w x0 x1 x2 x3).alloc (.map #[] 0):=⟨_,rfl⟩
 rw [← hws] at hD ⊢
 have hb:∀b,b < w.heap.size+4→ws.heap[b]? = (boxes w x0 x1 x2 x3).heap[b]? := fun b h=>by rw [hws];exact qK _ _ (by rw [qQ];exact h)
 have b0:=(hb w.heap.size (by omega)).trans QG
 have b1:=(hb (w.heap.size+1) (by omega)).trans QH
 have b2:=(hb (w.heap.size+2) (by omega)).trans QI
 have b3:=(hb (w.heap.size+3) (by omega)).trans QJ
 clear hb hws k0 k1 k2 k3
 obtain ⟨v1,hv1,k4,k5,k6,k7,k9⟩:∃v:Nat→Value,v=upd (upd (upd (upd (upd v0 4 (.pointer (some ⟨w.heap.size,0,none⟩))) 5 (.pointer (some ⟨w.heap.size+1,0,none⟩))) 6 (.pointer (some ⟨w.heap.size+2,0,none⟩))) 7 (.pointer (some ⟨w.heap.size+3,0,none⟩))) 9 (.map (some (w.heap.size+4)))∧v 4=.pointer (some ⟨w.heap.size,0,none⟩)∧v 5=.pointer (some ⟨w.heap.size+1,0,none⟩)∧v 6=.pointer (some ⟨w.heap.size+2,0,none⟩)∧v 7=.pointer (some ⟨w.heap.size+3,0,none⟩)∧v 9=.map (some (w.heap.size+4)):=⟨_,rfl,by simp [upd],by simp [upd],by simp [upd],by simp [upd],by simp [upd]⟩
 replace hD:SD K g Fin q0 w0 v1 (.inRegion sO [5,6,7,8,9,10,11,12] :: [.code .ret]) (cf :: cr) ws:=by rw [hv1];exact hD
 clear hv1
 replace hD:=hD.valF Zs YC _ 10 rfl rfl rfl (by decide) (qdf (b:=w.heap.size) rfl (by rw [qE (by decide)];exact k4))
 have load:∀{v:Nat→Value} {i k:Nat} {rest:List Nat} {t:TypeId} {x:Nat} {b:Nat} {cc:Array Value} {e:TypeId} {f:Nat×Nat},SD K g Fin q0 w0 v (.inRegion sO (i :: rest) :: [.code .ret]) (cf :: cr) ws→∀o:Oper,sO[i]? = some o→o.op=.load t (.tmp x)→o.guard=none→o.dst=some k→k < 17→x < 17→v x=.pointer (some ⟨b,0,none⟩)→ws.heap[b]? = some (.cells cc e f) →
  ∃y,(Instr.loadAt t (.pointer (some ⟨b,0,none⟩))).run qj ws=.ok y ws∧SD K g Fin q0 w0 (upd v k y) (.inRegion sO rest :: [.code .ret]) (cf :: cr) ws:=by
  intro v i k rest t x b cc e f hD o ho hop hg hd hk hx hv hb
  obtain ⟨n,w',hr⟩:=hD.ok2 Zs ho hg rfl
  obtain ⟨y,hl,rfl⟩:=qae hop hr
  rw [qE hx,hv] at hl
  obtain ⟨rfl,_,_⟩:=yU (ad:=⟨b,0,none⟩) hb rfl hl
  exact ⟨y,hl,hD.valF Zs YC o k ho hg hd hk hr⟩
 obtain ⟨d,l28,hD⟩:=load hD _ rfl rfl rfl rfl (by decide) (by decide) (upd_same _ _ _) b0
 obtain ⟨ys,rfl,hys⟩:=load_agg (ad:=⟨w.heap.size,0,none⟩) (n:=5) b0 (fun w=>by rw [qH];exact Tryz.isAgg28 w) (fun w=>by rw [qA];exact Tryz.sizeOf28 w) l28
 obtain ⟨y0,y1,y2,y3,y4,rfl⟩:=agg5 hys
 obtain ⟨lv,l75,hD⟩:=load hD _ rfl rfl rfl rfl (by decide) (by decide) (by simp [upd];exact k5) b1
 obtain ⟨sv,l87,hD⟩:=load hD _ rfl rfl rfl rfl (by decide) (by decide) (by simp [upd];exact k6) b2
 obtain ⟨mv,l82,hD⟩:=load hD _ rfl rfl rfl rfl (by decide) (by decide) (by simp [upd];exact k7) b3
 replace hD:=hD.valF Zs YC sO[10] 15 rfl rfl rfl (by decide) (qcR qR (b:=w.heap.size+4) (y0:=y0) (y1:=y1) (y2:=y2) (y3:=y3) (y4:=y4) rfl (by rw [qE (by decide)];simp [upd]) (by rw [qE (by decide)];simp [upd];exact k9))
 exact ⟨_,y0,y1,y2,y3,y4,lv,sv,mv,⟨l28,l75,l87,l82⟩,src_call Zs hD (by simp [upd]) (by simp [upd]) (by simp [upd]) (by simp [upd])⟩
end
end Go.Proofs.Tryz
end
section
namespace Go.Proofs.Tryz
open Go Go.Conc Go.Sim Go.RowKit
open Go.ConcN (upd upd_ne upd_same)
def tb:Frame:=base 70
theorem xN:tb.kind≠.early:=qcI _
theorem qci (xs:Array Value):Frame.enter Tryz.prog 70 xs .normal=tb.at ⟨fT 18 (JG 18 xs),[]⟩ [.code Zu]:=qaR xs QY (by kernel_rfl) (by kernel_rfl)
abbrev ptr (b:Nat):Value:=.pointer (some ⟨b,0,none⟩)
noncomputable def tR3:Code:=.seq (.region 3 tO3 false) (.seq (.seq (.region 4 tO4 false) (.block 0 (.loop tL))) (.seq (.region 7 tO7 false) .ret))
noncomputable def tR7:Code:=.seq (.region 7 tO7 false) .ret
structure AtGo (w w2:World) (x0 x1 x2 x3:Value):Prop where
 size:w2.heap.size=w.heap.size+6
 low:∀b,b < w.heap.size+4→w2.heap[b]? = (boxes w x0 x1 x2 x3).heap[b]?
 ch:w2.heap[w.heap.size+4]? = some (.chan 0 #[] false 0 0 false)
 cb:w2.heap[w.heap.size+5]? = some (.cells #[.chan (some (w.heap.size+4))] 139 (0,0))
 rest:w2.tape=w.tape∧w2.os=w.os∧w2.output=w.output
section
variable {S Bx:Nat→Prop} {w:World} {cs:List Frame} {v:Nat→Value} {n:Nat}
def Ja (cb b0:Nat):Value:=.func (.func 102) #[] #[ptr cb,ptr b0,ptr (b0+1),ptr (b0+2),ptr (b0+3)]
theorem qdH {ev:Operand→Value} {cb b0:Nat} (h9:ev (.tmp 9)=ptr cb) (h4:ev (.tmp 4)=ptr b0) (h5:ev (.tmp 5)=ptr (b0+1)) (h6:ev (.tmp 6)=ptr (b0+2)) (h7:ev (.tmp 7)=ptr (b0+3)) (w:World) :
 (execOp ev (tO 2 0)).run Tryz.prog w=.ok (.value (Ja cb b0)) w∧(execOp ev (tO 2 0)).events Tryz.prog w #[]=#[]:=by
 unfold execOp;rw [t_op2_0];constructor
 ·simp [go_sem,h9,h4,h5,h6,h7,Ja]
 ·simp [go_sem]
theorem way_go (hS:∀b,S b→b < w.heap.size) {x0 x1 x2 x3:Value} (h0:v 0=x0) (h1:v 1=x1) (h2:v 2=x2) (h3:v 3=x3) :
 ∃n,GoJ Tryz.prog true S (fun _=>False) (fun g w1=>∃u w2 d,g=G (tb.at ⟨fT 18 u,[]⟩ (.inRegion tO2 [1] :: [.code tR3])) cs∧u 12=Ja (w.heap.size+5) w.heap.size∧u 9=ptr (w.heap.size+5)∧AtGo w w2 x0 x1 x2 x3∧w1=w2.at d) n (G (tb.at ⟨fT 18 v,[]⟩ [.code Zu]) cs) w:=by
 refine ⟨18,?_⟩
 rw [t_body]
 refine GoJ.ctl rfl (fun _=>stepG_seq) ?_
 refine GoJ.ctl rfl (fun _=>stepG_region) ?_
 rw [t_size0]
 simp only [List.range,List.range.loop]
 refine GoJ.box t_at0_0 t_g0_0 xN (fun _ h=>h.elim) t_op0_0 (z:=x0) (by rw [qE (by decide)];exact h0) ?_
 rw [t_d0_0,yg (by decide)]
 refine GoJ.box t_at0_1 t_g0_1 xN (fun _ h=>h.elim) t_op0_1 (z:=x1) (by rw [qE (by decide)];simp [upd];exact h1) ?_
 rw [t_d0_1,yg (by decide)]
 refine GoJ.box t_at0_2 t_g0_2 xN (fun _ h=>h.elim) t_op0_2 (z:=x2) (by rw [qE (by decide)];simp [upd];exact h2) ?_
 rw [t_d0_2,yg (by decide)]
 refine GoJ.box t_at0_3 t_g0_3 xN (fun _ h=>h.elim) t_op0_3 (z:=x3) (by rw [qE (by decide)];simp [upd];exact h3) ?_
 rw [t_d0_3,yg (by decide)]
 simp only [qP]
 change GoJ _ _ _ _ _ _ _ (boxes w x0 x1 x2 x3)
 obtain ⟨v1,hv1,k4,k5,k6,k7⟩:∃u:Nat→Value,u=upd (upd (upd (upd v 4 (ptr w.heap.size)) 5 (ptr (w.heap.size+1))) 6 (ptr (w.heap.size+2))) 7 (ptr (w.heap.size+3))∧u 4=ptr w.heap.size∧u 5=ptr (w.heap.size+1)∧u 6=ptr (w.heap.size+2)∧u 7=ptr (w.heap.size+3):=⟨_,rfl,by simp [upd],by simp [upd],by simp [upd],by simp [upd]⟩
 rw [← hv1]
 clear hv1
 refine GoJ.copy t_at0_4 t_g0_4 xN (.inl t_op0_4) (z:=.int .i64 0) rfl ?_
 rw [t_d0_4,yg (by decide)]
 refine GoJ.ctl rfl (fun _=>stepG_region_end) ?_
 refine GoJ.ctl rfl (fun _=>stepG_seq) ?_
 refine GoJ.ctl rfl (fun _=>stepG_region) ?_
 rw [t_size1]
 simp only [List.range,List.range.loop]
 refine GoJ.chan t_at1_0 t_g1_0 xN (fun _ h=>h.elim) t_op1_0 rfl (dir:=.both) (e:=3) (inf:=(Tryz.prog.info? 3).getD default) (by kernel_rfl) (by kernel_rfl) ?_
 rw [t_d1_0,yg (by decide),qQ]
 obtain ⟨wc,hwc⟩:∃wc,wc=(boxes w x0 x1 x2 x3).alloc (.chan 0 #[] false 0 0 false):=⟨_,rfl⟩
 rw [← hwc]
 have szc:wc.heap.size=w.heap.size+5:=by rw [hwc,qP,qQ]
 refine GoJ.alloc t_at1_1 t_g1_1 xN (fun _ h=>h.elim) t_op1_1 Tryz.zeroValue139 ?_
 rw [t_d1_1,yg (by decide),szc]
 obtain ⟨wb,hwb⟩:∃wb,wb=wc.alloc (.cells (Value.chan none).cells 139 (0,0)):=⟨_,rfl⟩
 rw [← hwb]
 have hcb:wb.heap[w.heap.size+5]? = some (.cells #[.chan none] 139 (0,0)):=by rw [hwb,← szc,xm];rfl
 refine GoJ.storeC (bk:=w.heap.size+5) (c:=w.heap.size+4) t_at1_2 t_g1_2 xN t_op1_2 (by rw [qE (by decide)];simp [upd]) (by rw [qE (by decide)];simp [upd]) Tryz.sizeOf139 (fun h=>by have:=hS _ h;omega) id hcb (fun w2 sz2 old2 cb2 rest2=>?_)
 rw [t_d1_2,qdb]
 refine GoJ.ctl rfl (fun _=>stepG_region_end) ?_
 refine GoJ.ctl rfl (fun _=>stepG_seq) ?_
 refine GoJ.ctl rfl (fun _=>stepG_region) ?_
 rw [t_size2]
 simp only [List.range,List.range.loop]
 refine GoJ.pure (v:=Ja (w.heap.size+5) w.heap.size) t_at2_0 t_g2_0 xN (fun w=>qdH (by rw [qE (by decide)];simp [upd]) (by rw [qE (by decide)];simp [upd];exact k4) (by rw [qE (by decide)];simp [upd];exact k5) (by rw [qE (by decide)];simp [upd];exact k6) (by rw [qE (by decide)];simp [upd];exact k7) w) ?_
 rw [t_d2_0,yg (by decide)]
 refine Goes.stop fun w1 ⟨d,hd⟩=>⟨_,w2,d,rfl,by rw [upd_same],by simp [upd],⟨?_,fun b hb=>?_,?_,cb2,?_⟩,hd⟩
 ·rw [sz2,hwb,qP,szc]
 ·rw [old2 b (by omega),hwb,qK _ _ (by omega),hwc,qK _ _ (by rw [qQ];omega)]
 ·rw [old2 _ (by omega),hwb,qK _ _ (by omega),hwc,← qQ (w:=w) (x0:=x0) (x1:=x1) (x2:=x2) (x3:=x3),xm]
 ·rw [rest2.1,rest2.2.1,rest2.2.2,hwb,hwc];exact ⟨rfl,rfl,rfl⟩
end
end Go.Proofs.Tryz
end
section
namespace Go.Proofs.Tryz
open Go Go.Conc Go.Sim Go.RowKit
open Go.ConcN (upd upd_ne upd_same)
noncomputable def tAft:List Item:=[.code (.seq (.cond (.tmp 15) .skip (.exit 0)) (.block 1 (.region 6 tO6 false))),.inLoop tL,.inBlock 0,.code tR7]
abbrev zI:Value:=.int .i64 0
section
variable {Bx:Nat→Prop} {ch:Nat} {Q:Goroutine→World→Prop} {w:World} {cs:List Frame} {v:Nat→Value}
def qaG (cs:List Frame) (ch:Nat) (x:Value) (g:Goroutine):Prop:=∃u:Nat→Value,g=G (tb.at ⟨fT 18 u,[]⟩ (.inRegion tO5 [0,1] :: tAft)) cs∧u 13=.chan (some ch)∧u 10=x
theorem recv_run {ev:Operand→Value} (h:ev (.tmp 13)=.chan (some ch)) (w:World):(execOp ev (tO 5 0)).run Tryz.prog w=.ok (.comm #[rcase ch zI] true (.recv true)) w∧(execOp ev (tO 5 0)).events Tryz.prog w #[]=#[]:=by
 unfold execOp;rw [t_op5_0];simp only [h]
 constructor
 ·simp [go_sem,rcase]
 ·simp [go_sem]
theorem qep {u:Nat→Value} {rest:List Nat} {kk:List Item} (h:u 13=.chan (some ch)) (w:World) :
 stepG Tryz.prog true (G (tb.at ⟨fT 18 u,[]⟩ (.inRegion tO5 (0 :: rest) :: kk)) cs) w=.comm (core (G (tb.at ⟨fT 18 u,[]⟩ (.inRegion tO5 (0 :: rest) :: kk)) cs)) #[rcase ch zI] true (.recv true) w #[] :=
 qeq (t:=0) (x:=.tmp 0) qeG t_g5_0 xN (fun w=>recv_run (by rw [qE (by decide)];exact h) w) w
theorem qeL {x:Value} (h13:v 13=.chan (some ch)) (h10:v 10=x):Stand Tryz.prog Bx ch zI true (fun g w=>stepG Tryz.prog true g w=.comm (core g) #[rcase ch zI] true (.recv true) w #[]∧qaG cs ch x g) 3 (G (tb.at ⟨fT 18 v,[]⟩ [.code tL,.inLoop tL,.inBlock 0,.code tR7]) cs) w:=by
 have e:(Item.code tL)=.code (.seq (.region 5 tO5 false) (.seq (.cond (.tmp 15) .skip (.exit 0)) (.block 1 (.region 6 tO6 false)))):=congrArg Item.code t_L
 rw [show ([.code tL,.inLoop tL,.inBlock 0,.code tR7]:List Item)=.code (.seq (.region 5 tO5 false) (.seq (.cond (.tmp 15) .skip (.exit 0)) (.block 1 (.region 6 tO6 false)))) :: [.inLoop tL,.inBlock 0,.code tR7] from congrArg (· :: [Item.inLoop tL,.inBlock 0,.code tR7]) e]
 refine .ctl rfl (fun _=>stepG_seq) ?_
 refine .ctl rfl (fun _=>stepG_region) ?_
 rw [t_size5]
 simp only [List.range,List.range.loop]
 exact .ready rfl fun w1 _=>⟨⟨qep h13 w1,v,rfl,h13,h10⟩,qep h13 w1⟩
theorem stand1 {cb:Nat} (hcb:Bx cb) (hc:w.heap[cb]? = some (.cells #[.chan (some ch)] 139 (0,0))) (h9:v 9=ptr cb) :
 Stand Tryz.prog Bx ch zI true (fun g w=>stepG Tryz.prog true g w=.comm (core g) #[rcase ch zI] true (.recv true) w #[]∧qaG cs ch zI g) 15 (G (tb.at ⟨fT 18 v,[]⟩ (.inRegion tO2 [] :: [.code tR3])) cs) w:=by
 refine .ctl rfl (fun _=>stepG_region_end) ?_
 unfold tR3
 refine .ctl rfl (fun _=>stepG_seq) ?_
 refine .ctl rfl (fun _=>stepG_region) ?_
 rw [t_size3]
 simp only [List.range,List.range.loop]
 refine .pure (v:=zI) t_at3_0 t_g3_0 xN (qaP (.inl t_op3_0) rfl) ?_
 rw [t_d3_0,yg (by decide)]
 refine .ctl rfl (fun _=>stepG_region_end) ?_
 refine .ctl rfl (fun _=>stepG_seq) ?_
 refine .ctl rfl (fun _=>stepG_seq) ?_
 refine .ctl rfl (fun _=>stepG_region) ?_
 rw [t_size4]
 simp only [List.range,List.range.loop]
 refine .load t_at4_0 t_g4_0 xN t_op4_0 (by rw [qE (by decide)];simp [upd];exact h9) Tryz.isAgg139 hcb hc ?_
 rw [t_d4_0,yg (by decide)]
 refine .ctl rfl (fun _=>stepG_region_end) ?_
 refine .ctl rfl (fun _=>stepG_block) ?_
 refine .ctl rfl (fun _=>stepG_loop) ?_
 refine qeL ?_ ?_
 ·rw [upd_same]
 ·simp [upd]
theorem Jr {x y:Value} {op:Bool} {g0:Goroutine} (h:qaG cs ch x g0):∃u:Nat→Value,Conc.served (core g0) (recvd true y op)=G (tb.at ⟨fT 18 u,[]⟩ (.inRegion tO5 [1] :: tAft)) cs∧u 13=.chan (some ch)∧u 10=x∧u 14=.tuple #[y,.bool op]:=by
 obtain ⟨u,rfl,h13,h10⟩:=h
 rw [core_G,served_G,qeG]
 simp only [Option.bind_some]
 rw [t_d5_0,yg (by decide)]
 exact ⟨_,rfl,by simp [upd,h13],by simp [upd,h10],by simp [upd,recvd]⟩
theorem stand2 {y:Value} (h13:v 13=.chan (some ch)) (h14:v 14=.tuple #[y,.bool true]) :
 Stand Tryz.prog Bx ch zI true (fun g w=>stepG Tryz.prog true g w=.comm (core g) #[rcase ch zI] true (.recv true) w #[]∧qaG cs ch y g) 15 (G (tb.at ⟨fT 18 v,[]⟩ (.inRegion tO5 [1] :: tAft)) cs) w:=by
 refine .pure qeH t_g5_1 xN (jS qeI (by rw [qE (by decide)];exact h14) rfl) ?_
 rw [t_d5_1,yg (by decide)]
 refine .ctl rfl (fun _=>stepG_region_end) ?_
 unfold tAft
 refine .ctl rfl (fun _=>stepG_seq) ?_
 refine .ctl rfl (fun _=>stepG_cond (t:=true) (by rw [qE (by decide)];simp [upd])) ?_
 simp only [if_true]
 refine .ctl rfl (fun _=>stepG_skip) ?_
 refine .ctl rfl (fun _=>stepG_block) ?_
 refine .ctl rfl (fun _=>stepG_region) ?_
 rw [t_size6]
 simp only [List.range,List.range.loop]
 refine .pure t_at6_0 t_g6_0 xN (jS (y:=y) t_op6_0 (by rw [qE (by decide)];simp [upd];exact h14) rfl) ?_
 rw [t_d6_0,yg (by decide)]
 refine .pure t_at6_1 t_g6_1 xN (qaP (y:=y) (.inl t_op6_1) (by rw [qE (by decide),upd_same])) ?_
 rw [t_d6_1,yg (by decide)]
 refine .ctl rfl (fun _=>stepG_region_end) ?_
 refine .ctl rfl (fun _=>stepG_inBlock) ?_
 refine .ctl rfl (fun _=>stepG_inLoop) ?_
 refine qeL ?_ ?_
 ·simp [upd,h13]
 ·rw [upd_same]
theorem way_end {S:Nat→Prop} {cf:Frame} {cr:List Frame} {y:Value} (h10:v 10=y) {z:Value} (h14:v 14=.tuple #[z,.bool false]) :
 GoJ Tryz.prog true S Bx (fun g w1=>g=G (cf.finish y) cr∧∃d,w1=w.at d) 12 (G (tb.at ⟨fT 18 v,[]⟩ (.inRegion tO5 [1] :: tAft)) (cf :: cr)) w:=by
 refine GoJ.pure qeH t_g5_1 xN (jS qeI (by rw [qE (by decide)];exact h14) rfl) ?_
 rw [t_d5_1,yg (by decide)]
 refine GoJ.ctl rfl (fun _=>stepG_region_end) ?_
 unfold tAft
 refine GoJ.ctl rfl (fun _=>stepG_seq) ?_
 refine GoJ.ctl rfl (fun _=>stepG_cond (t:=false) (by rw [qE (by decide)];simp [upd])) ?_
 simp only [Bool.false_eq_true,if_false]
 refine GoJ.ctl rfl (fun _=>stepG_exit rfl) ?_
 unfold tR7
 refine GoJ.ctl rfl (fun _=>stepG_seq) ?_
 refine GoJ.ctl rfl (fun _=>stepG_region) ?_
 rw [t_size7]
 simp only [List.range,List.range.loop]
 refine GoJ.copy t_at7_0 t_g7_0 xN (.inr t_op7_0) (z:=y) (by rw [qE (by decide)];simp [upd,h10]) ?_
 rw [t_d7_0,yg (by decide)]
 refine GoJ.copy t_at7_1 t_g7_1 xN (.inl t_op7_1) (z:=y) (by rw [qE (by decide),upd_same]) ?_
 rw [t_d7_1,yg (by decide)]
 refine GoJ.ctl rfl (fun _=>stepG_region_end) ?_
 refine GoJ.ctl rfl (fun _=>stepG_ret') ?_
 refine GoJ.ctl (g':=G (cf.finish y) cr) rfl (fun w=>?_) (Goes.stop fun w1 hd=>⟨rfl,hd⟩)
 have hr:Tryz.f70.results=#[.tmp 8]:=by kernel_rfl
 have:=stepG_leave (P:=Tryz.prog) (main:=true) (b:=tb) (a:=⟨fT 18 (upd (upd (upd v 15 (.bool false)) 17 y) 8 y),[]⟩) (todo:=[.code .ret]) (c:=cf) (cs:=cr) (w:=w) rfl rfl QY (results_tmp hr _ _ w) (events_results_tmp hr _ _)
 rw [qda (by decide),upd_same] at this
 exact this
end
end Go.Proofs.Tryz
end
section
namespace Go.Proofs.Tryz
open Go Go.Conc Go.Sim Go.RowKit
open Go.ConcN (upd upd_ne upd_same)
def kb:Frame:=baseD 102
noncomputable def qbc:Frame:={ (default:Frame) with fn:=Tryz.prog.funcs.size,defers:=[],mode:=.panicking [goexitEntry] }
theorem Zr:kb.kind≠.early:=by intro h;cases h
def qab (cb b0:Nat):Deferred:={ target:=.fn (.func 102) #[ptr cb,ptr b0,ptr (b0+1),ptr (b0+2),ptr (b0+3)],args:=#[] }
theorem k_born (cb b0:Nat) (w:World):stepG Tryz.prog false (born Tryz.prog (qab cb b0)) w =
 .go (G (kb.at ⟨#[ptr cb,ptr b0,ptr (b0+1),ptr (b0+2),ptr (b0+3),undef,undef,undef,undef,undef,undef,undef,undef,undef,undef],[]⟩ [.code qdx]) [qbc]) w #[]:=by
 simp [born,qab,stepG,unwind,callDeferred,invoke,callFunc,Tryz.func102,Tryz.f102,seen,GStep.after,G,Frame.enter,Frame.at,kb,baseD,qbc,qdx]
theorem go_run {ev:Operand→Value} {cb b0:Nat} (h:ev (.tmp 12)=Ja cb b0) (w:World):(execOp ev (tO 2 1)).run Tryz.prog w=.ok (.spawn (qab cb b0)) w∧(execOp ev (tO 2 1)).events Tryz.prog w #[]=#[]:=by
 unfold execOp;rw [t_op2_1];simp only;constructor
 ·simp [resolve,Deferred.ofValue,h,Ja,qab]
 ·simp [resolve,Deferred.ofValue,h,Ja]
theorem go_step {v:Nat→Value} {kk:List Item} {cs:List Frame} {cb b0:Nat} (h:v 12=Ja cb b0) (w:World):stepG Tryz.prog true (G (tb.at ⟨fT 18 v,[]⟩ (.inRegion tO2 [1] :: kk)) cs) w=.spawn (G (tb.at ⟨fT 18 v,[]⟩ (.inRegion tO2 [] :: kk)) cs) (born Tryz.prog (qab cb b0)) w #[]:=by
 have hy:=go_run (ev:=Go.Act.eval ⟨fT 18 v,[]⟩) (cb:=cb) (b0:=b0) (by rw [qE (by decide)];exact h) w
 rw [stepG_spawn t_at2_1 (by unfold Region.wanted;rw [t_g2_1]) xN hy.1 rfl,t_d2_1,qdb,listed_none hy.2]
def yR (ch:Nat):Deferred:={ target:=.builtin .close #[139] 0 #[false],args:=#[.chan (some ch)] }
theorem k_ty0_1:(kO 0 1).type=0:=by kernel_rfl
theorem qbC {a:Go.Act} {rest:List Nat} {kk:List Item} {cs:List Frame} {ch:Nat} (h:a.eval (.tmp 5)=.chan (some ch)) (w:World):stepG Tryz.prog false (G (kb.at a (.inRegion kO0 (1 :: rest) :: kk)) cs) w=.go (G (kb.at ⟨a.tmps,yR ch :: a.defers⟩ (.inRegion kO0 rest :: kk)) cs) w #[]:=by
 have hr:(execOp a.eval (kO 0 1)).run Tryz.prog w=.ok (.defer (yR ch)) w:=by
  unfold execOp
  rw [qdC]
  simp [resolve,h,yR,k_ty0_1]
 have he:(execOp a.eval (kO 0 1)).events Tryz.prog w #[]=#[]:=by
  unfold execOp
  rw [qdC]
  simp [resolve,h]
 have hfin:(kb.at ⟨a.tmps,yR ch :: a.defers⟩ (.inRegion kO0 (1 :: rest) :: kk)).finish undef=kb.at ⟨a.tmps,yR ch :: a.defers⟩ (.inRegion kO0 rest :: kk):=by rw [Frame.finish_at,qdy,Option.bind_some,k_d0_1];rfl
 have hk':(kb.kind == CallKind.early)=false:=rfl
 rw [stepG_oper qdy (by unfold Region.wanted;rw [k_g0_1]),← hfin]
 simp [stepG.apply,hr,he,G,Frame.at,hk',GStep.after,seen_none]
end Go.Proofs.Tryz
end
namespace Go.Proofs.Tryz
open Go Go.Conc Go.Sim
set_option maxRecDepth 100000 in
theorem ja:∀l0 l1 l2 l3 l4 l5 l6 l7 l8 l9:Bool,Region.ready .any kO1 #[l0,l1,l2,l3,l4,l5,l6,l7,l8,l9] =
 [0,1,2,3,4,5,6,7,8,9].filter fun i=>match i with | 0 => !l0 | 1 => !l1 | 2 => !l2 && l1 | 3 => !l3 | 4 => !l4 && l2 && l3 | 5 => !l5 | 6 => !l6 | 7 => !l7 | 8 => !l8 && l4 && l5 && l6 && l7 | _ => !l9 && l0 && l8:=by
 decide +kernel
end Go.Proofs.Tryz
section
namespace Go.Proofs.Tryz
open Go Go.Conc Go.Sim Go.RowKit
open Go.ConcN (upd upd_ne upd_same)
def kT (cb b0 ch mb:Nat) (dv lv sv mv y0 y1 y2 y3 y4:Value) (l0 l1 l2 l3 l4 l5 l6 l7:Bool):Array Value :=
 #[ptr cb,ptr b0,ptr (b0+1),ptr (b0+2),ptr (b0+3),.chan (some ch),bif l0 then .chan (some ch) else undef,bif l1 then ptr b0 else undef,bif l2 then dv else undef,bif l3 then .map (some mb) else undef,bif l4 then .agg #[y0,y1,y2,y3,y4,.map (some mb)] else undef,bif l5 then lv else undef,bif l6 then sv else undef,bif l7 then mv else undef,undef]
section
variable {cb b0 ch mb:Nat} {dv lv sv mv y0 y1 y2 y3 y4:Value} {l0 l1 l2 l3 l4 l5 l6 l7:Bool} {ds:List Deferred}
theorem k_put0:Go.Act.put ⟨kT cb b0 ch mb dv lv sv mv y0 y1 y2 y3 y4 false l1 l2 l3 l4 l5 l6 l7,ds⟩ (some 6) (.chan (some ch))=⟨kT cb b0 ch mb dv lv sv mv y0 y1 y2 y3 y4 true l1 l2 l3 l4 l5 l6 l7,ds⟩:=rfl
theorem k_set0:#[false,l1,l2,l3,l4,l5,l6,l7,false,false].setIfInBounds 0 true=#[true,l1,l2,l3,l4,l5,l6,l7,false,false]:=rfl
theorem k_put1:Go.Act.put ⟨kT cb b0 ch mb dv lv sv mv y0 y1 y2 y3 y4 l0 false l2 l3 l4 l5 l6 l7,ds⟩ (some 7) (ptr b0)=⟨kT cb b0 ch mb dv lv sv mv y0 y1 y2 y3 y4 l0 true l2 l3 l4 l5 l6 l7,ds⟩:=rfl
theorem k_set1:#[l0,false,l2,l3,l4,l5,l6,l7,false,false].setIfInBounds 1 true=#[l0,true,l2,l3,l4,l5,l6,l7,false,false]:=rfl
theorem k_put2:Go.Act.put ⟨kT cb b0 ch mb dv lv sv mv y0 y1 y2 y3 y4 l0 l1 false l3 l4 l5 l6 l7,ds⟩ (some 8) (dv)=⟨kT cb b0 ch mb dv lv sv mv y0 y1 y2 y3 y4 l0 l1 true l3 l4 l5 l6 l7,ds⟩:=rfl
theorem k_set2:#[l0,l1,false,l3,l4,l5,l6,l7,false,false].setIfInBounds 2 true=#[l0,l1,true,l3,l4,l5,l6,l7,false,false]:=rfl
theorem k_put3:Go.Act.put ⟨kT cb b0 ch mb dv lv sv mv y0 y1 y2 y3 y4 l0 l1 l2 false l4 l5 l6 l7,ds⟩ (some 9) (.map (some mb))=⟨kT cb b0 ch mb dv lv sv mv y0 y1 y2 y3 y4 l0 l1 l2 true l4 l5 l6 l7,ds⟩:=rfl
theorem k_set3:#[l0,l1,l2,false,l4,l5,l6,l7,false,false].setIfInBounds 3 true=#[l0,l1,l2,true,l4,l5,l6,l7,false,false]:=rfl
theorem k_put4:Go.Act.put ⟨kT cb b0 ch mb dv lv sv mv y0 y1 y2 y3 y4 l0 l1 l2 l3 false l5 l6 l7,ds⟩ (some 10) (.agg #[y0,y1,y2,y3,y4,.map (some mb)])=⟨kT cb b0 ch mb dv lv sv mv y0 y1 y2 y3 y4 l0 l1 l2 l3 true l5 l6 l7,ds⟩:=rfl
theorem k_set4:#[l0,l1,l2,l3,false,l5,l6,l7,false,false].setIfInBounds 4 true=#[l0,l1,l2,l3,true,l5,l6,l7,false,false]:=rfl
theorem k_put5:Go.Act.put ⟨kT cb b0 ch mb dv lv sv mv y0 y1 y2 y3 y4 l0 l1 l2 l3 l4 false l6 l7,ds⟩ (some 11) (lv)=⟨kT cb b0 ch mb dv lv sv mv y0 y1 y2 y3 y4 l0 l1 l2 l3 l4 true l6 l7,ds⟩:=rfl
theorem k_set5:#[l0,l1,l2,l3,l4,false,l6,l7,false,false].setIfInBounds 5 true=#[l0,l1,l2,l3,l4,true,l6,l7,false,false]:=rfl
theorem k_put6:Go.Act.put ⟨kT cb b0 ch mb dv lv sv mv y0 y1 y2 y3 y4 l0 l1 l2 l3 l4 l5 false l7,ds⟩ (some 12) (sv)=⟨kT cb b0 ch mb dv lv sv mv y0 y1 y2 y3 y4 l0 l1 l2 l3 l4 l5 true l7,ds⟩:=rfl
theorem k_set6:#[l0,l1,l2,l3,l4,l5,false,l7,false,false].setIfInBounds 6 true=#[l0,l1,l2,l3,l4,l5,true,l7,false,false]:=rfl
theorem k_put7:Go.Act.put ⟨kT cb b0 ch mb dv lv sv mv y0 y1 y2 y3 y4 l0 l1 l2 l3 l4 l5 l6 false,ds⟩ (some 13) (mv)=⟨kT cb b0 ch mb dv lv sv mv y0 y1 y2 y3 y4 l0 l1 l2 l3 l4 l5 l6 true,ds⟩:=rfl
theorem k_set7:#[l0,l1,l2,l3,l4,l5,l6,false,false,false].setIfInBounds 7 true=#[l0,l1,l2,l3,l4,l5,l6,true,false,false]:=rfl
theorem k_args:(#[Operand.tmp 10,.tmp 11,.tmp 12,.tmp 13].map (Go.Act.eval ⟨kT cb b0 ch mb dv lv sv mv y0 y1 y2 y3 y4 l0 l1 l2 l3 true true true true,ds⟩))=#[.agg #[y0,y1,y2,y3,y4,.map (some mb)],lv,sv,mv]:=by simp [Go.Act.eval,kT]
end
def off:List Bool→Nat
 | []=>0
 | true :: l=>off l
 | false :: l=>off l+1
theorem off0 {l1 l2 l3 l4 l5 l6 l7:Bool} {n:Nat} (h:off [false,l1,l2,l3,l4,l5,l6,l7,false,false]=n+1):off [true,l1,l2,l3,l4,l5,l6,l7,false,false]=n:=by
 cases l1 <;> cases l2 <;> cases l3 <;> cases l4 <;> cases l5 <;> cases l6 <;> cases l7 <;> exact Nat.succ.inj h
theorem off1 {l0 l2 l3 l4 l5 l6 l7:Bool} {n:Nat} (h:off [l0,false,l2,l3,l4,l5,l6,l7,false,false]=n+1):off [l0,true,l2,l3,l4,l5,l6,l7,false,false]=n:=by
 cases l0 <;> cases l2 <;> cases l3 <;> cases l4 <;> cases l5 <;> cases l6 <;> cases l7 <;> exact Nat.succ.inj h
theorem off2 {l0 l1 l3 l4 l5 l6 l7:Bool} {n:Nat} (h:off [l0,l1,false,l3,l4,l5,l6,l7,false,false]=n+1):off [l0,l1,true,l3,l4,l5,l6,l7,false,false]=n:=by
 cases l0 <;> cases l1 <;> cases l3 <;> cases l4 <;> cases l5 <;> cases l6 <;> cases l7 <;> exact Nat.succ.inj h
theorem off3 {l0 l1 l2 l4 l5 l6 l7:Bool} {n:Nat} (h:off [l0,l1,l2,false,l4,l5,l6,l7,false,false]=n+1):off [l0,l1,l2,true,l4,l5,l6,l7,false,false]=n:=by
 cases l0 <;> cases l1 <;> cases l2 <;> cases l4 <;> cases l5 <;> cases l6 <;> cases l7 <;> exact Nat.succ.inj h
theorem off4 {l0 l1 l2 l3 l5 l6 l7:Bool} {n:Nat} (h:off [l0,l1,l2,l3,false,l5,l6,l7,false,false]=n+1):off [l0,l1,l2,l3,true,l5,l6,l7,false,false]=n:=by
 cases l0 <;> cases l1 <;> cases l2 <;> cases l3 <;> cases l5 <;> cases l6 <;> cases l7 <;> exact Nat.succ.inj h
theorem off5 {l0 l1 l2 l3 l4 l6 l7:Bool} {n:Nat} (h:off [l0,l1,l2,l3,l4,false,l6,l7,false,false]=n+1):off [l0,l1,l2,l3,l4,true,l6,l7,false,false]=n:=by
 cases l0 <;> cases l1 <;> cases l2 <;> cases l3 <;> cases l4 <;> cases l6 <;> cases l7 <;> exact Nat.succ.inj h
theorem off6 {l0 l1 l2 l3 l4 l5 l7:Bool} {n:Nat} (h:off [l0,l1,l2,l3,l4,l5,false,l7,false,false]=n+1):off [l0,l1,l2,l3,l4,l5,true,l7,false,false]=n:=by
 cases l0 <;> cases l1 <;> cases l2 <;> cases l3 <;> cases l4 <;> cases l5 <;> cases l7 <;> exact Nat.succ.inj h
theorem off7 {l0 l1 l2 l3 l4 l5 l6:Bool} {n:Nat} (h:off [l0,l1,l2,l3,l4,l5,l6,false,false,false]=n+1):off [l0,l1,l2,l3,l4,l5,l6,true,false,false]=n:=by
 cases l0 <;> cases l1 <;> cases l2 <;> cases l3 <;> cases l4 <;> cases l5 <;> cases l6 <;> exact Nat.succ.inj h
theorem k_some (l0 l1 l2 l3 l4 l5 l6 l7:Bool) (h2:l2=true→l1=true) (h4:l4=true→l2=true∧l3=true):Region.ready .any kO1 #[l0,l1,l2,l3,l4,l5,l6,l7,false,false]≠[]:=by
 rw [ja]
 revert l0 l1 l2 l3 l4 l5 l6 l7
 decide
def left (l0:Bool):List Nat:=bif l0 then [9] else [0,9]
theorem k_left (l0:Bool) (fuel t:Nat) (h:off [l0,true,true,true,true,true,true,true,false,false]=fuel+1):Region.linearise.go .any kO1 fuel t #[l0,true,true,true,true,true,true,true,true,false] []=left l0:=by
 cases l0 with
 | true =>
   obtain rfl:fuel=1:=(Nat.succ.inj h).symm
   obtain ⟨i,t',hi,e⟩:=jw (md:=.any) (ops:=kO1) (l:=#[true,true,true,true,true,true,true,true,true,false]) 0 t (by rw [ja];decide)
   rw [ja] at hi
   obtain rfl:i=9:=by revert hi;simp
   rw [e]
   rfl
 | false =>
   obtain rfl:fuel=2:=(Nat.succ.inj h).symm
   obtain ⟨i,t',hi,e⟩:=jw (md:=.any) (ops:=kO1) (l:=#[false,true,true,true,true,true,true,true,true,false]) 1 t (by rw [ja];decide)
   rw [ja] at hi
   obtain rfl:i=0:=by revert hi;simp
   rw [e]
   obtain ⟨i,t'',hi,e⟩:=jw (md:=.any) (ops:=kO1) (l:=#[true,true,true,true,true,true,true,true,true,false]) 0 t' (by rw [ja];decide)
   rw [ja] at hi
   obtain rfl:i=9:=by revert hi;simp
   rw [show (#[false,true,true,true,true,true,true,true,true,false]:Array Bool).setIfInBounds 0 true=#[true,true,true,true,true,true,true,true,true,false] from rfl,e]
   rfl
structure KidK (S Bx:Nat→Prop) (cb b0 ch mb:Nat) (dv lv sv mv y0 y1 y2 y3 y4:Value) (w wl:World):Prop where
 kd:dv=.agg #[y0,y1,y2,y3,y4]
 kl:Loaded Tryz.prog wl b0 y0 y1 y2 y3 y4 lv sv mv
 k0:∃c e f,wl.heap[b0]? = some (.cells c e f)∧w.heap[b0]? = some (.cells c e f)
 k1:∃c e f,wl.heap[b0+1]? = some (.cells c e f)∧w.heap[b0+1]? = some (.cells c e f)
 k2:∃c e f,wl.heap[b0+2]? = some (.cells c e f)∧w.heap[b0+2]? = some (.cells c e f)
 k3:∃c e f,wl.heap[b0+3]? = some (.cells c e f)∧w.heap[b0+3]? = some (.cells c e f)
 kc:w.heap[cb]? = some (.cells #[.chan (some ch)] 139 (0,0))
 nS:¬ S b0∧¬ S (b0+1)∧¬ S (b0+2)∧¬ S (b0+3)∧¬ S cb
 bx:∀c,Bx c→c < w.heap.size
theorem KidK.push {S Bx:Nat→Prop} {cb b0 ch mb:Nat} {dv lv sv mv y0 y1 y2 y3 y4:Value} {w wl:World} (h:KidK S Bx cb b0 ch mb dv lv sv mv y0 y1 y2 y3 y4 w wl) (o:Obj):KidK S Bx cb b0 ch mb dv lv sv mv y0 y1 y2 y3 y4 (w.alloc o) wl:=by
 have old:∀{b:Nat} {x:Obj},w.heap[b]? = some x→(w.alloc o).heap[b]? = some x:=fun hb=>(qK w o (Array.getElem?_eq_some_iff.1 hb).1).trans hb
 obtain ⟨c0,e0,f0,p0,q0⟩:=h.k0
 obtain ⟨c1,e1,f1,p1,q1⟩:=h.k1
 obtain ⟨c2,e2,f2,p2,q2⟩:=h.k2
 obtain ⟨c3,e3,f3,p3,q3⟩:=h.k3
 exact ⟨h.kd,h.kl,⟨c0,e0,f0,p0,old q0⟩,⟨c1,e1,f1,p1,old q1⟩,⟨c2,e2,f2,p2,old q2⟩,⟨c3,e3,f3,p3,old q3⟩,old h.kc,h.nS,fun c hc=>by rw [qP];have:=h.bx c hc;omega⟩
theorem ZP {cb ch:Nat} {w:World} (h:w.heap[cb]? = some (.cells #[.chan (some ch)] 139 (0,0))):(Instr.loadAt 139 (ptr cb)).run Tryz.prog w=.ok (.chan (some ch)) w:=by
 have hc:w.cell? ⟨cb,0,none⟩=some (.chan (some ch)):=by simp [World.cell?,h]
 go_simp
section
variable {S Bx:Nat→Prop} {cb b0 ch mb:Nat} {dv lv sv mv y0 y1 y2 y3 y4:Value}
def mapW (w0:World) (l3:Bool):World:=bif l3 then w0.alloc (.map #[] 0) else w0
def qaD (cb b0 ch mb:Nat) (dv lv sv mv y0 y1 y2 y3 y4:Value) (w0:World) (g:Goroutine) (w:World):Prop :=
 ∃(l0:Bool) (d:Nat),g=G (Frame.enter Tryz.prog 85 #[.agg #[y0,y1,y2,y3,y4,.map (some mb)],lv,sv,mv] .normal) [kb.at ⟨kT cb b0 ch mb dv lv sv mv y0 y1 y2 y3 y4 l0 true true true true true true true,[yR ch]⟩ [.inRegion kO1 (8 :: left l0)],qbc]∧w=(mapW w0 true).at d
theorem kid_ops {w0 wl:World} (hmb:mb=w0.heap.size) (hK:KidK S Bx cb b0 ch mb dv lv sv mv y0 y1 y2 y3 y4 w0 wl) :
 ∀(fuel t:Nat) (l0 l1 l2 l3 l4 l5 l6 l7:Bool),off [l0,l1,l2,l3,l4,l5,l6,l7,false,false]=fuel→(l2=true→l1=true)→(l4=true→l2=true∧l3=true) →
  GoJ Tryz.prog false S Bx (qaD cb b0 ch mb dv lv sv mv y0 y1 y2 y3 y4 w0) fuel
   (G (kb.at ⟨kT cb b0 ch mb dv lv sv mv y0 y1 y2 y3 y4 l0 l1 l2 l3 l4 l5 l6 l7,[yR ch]⟩ [.inRegion kO1 (Region.linearise.go .any kO1 fuel t #[l0,l1,l2,l3,l4,l5,l6,l7,false,false] [])]) [qbc]) (mapW w0 l3):=by
 intro fuel
 induction fuel with
 | zero =>
   intro t l0 l1 l2 l3 l4 l5 l6 l7 h
   exfalso
   revert h
   cases l0 <;> cases l1 <;> cases l2 <;> cases l3 <;> cases l4 <;> cases l5 <;> cases l6 <;> cases l7 <;> exact fun h=>Nat.noConfusion h
 | succ fuel ih =>
   intro t l0 l1 l2 l3 l4 l5 l6 l7 hoff h2 h4
   obtain ⟨k,t',hk,e⟩:=jw fuel t (k_some l0 l1 l2 l3 l4 l5 l6 l7 h2 h4)
   rw [e]
   clear e
   rw [ja] at hk
   simp only [List.mem_filter,List.mem_cons,List.not_mem_nil,or_false] at hk
   obtain ⟨hk,hc⟩:=hk
   have hW:KidK S Bx cb b0 ch mb dv lv sv mv y0 y1 y2 y3 y4 (mapW w0 l3) wl:=by
    cases l3
    ·exact hK
    ·exact hK.push _
   rcases hk with rfl | rfl | rfl | rfl | rfl | rfl | rfl | rfl | rfl | rfl
   ·obtain rfl:l0=false:=by simpa using hc
    refine GoJ.load qdz k_g1_0 Zr qdD (ad:=⟨cb,0,none⟩) rfl hW.nS.2.2.2.2 hW.kc hW.kc (ZP hW.kc) ?_
    rw [k_d1_0,k_put0,k_set0]
    exact ih t' true l1 l2 l3 l4 l5 l6 l7 (off0 hoff) h2 h4
   ·obtain rfl:l1=false:=by simpa using hc
    refine GoJ.pure k_at1_1 k_g1_1 Zr (fun w=>qbJ (b:=b0) k_op1_1 rfl) ?_
    rw [k_d1_1,k_put1,k_set1]
    exact ih t' l0 true l2 l3 l4 l5 l6 l7 (off1 hoff) (fun _=>rfl) h4
   ·obtain ⟨rfl,rfl⟩:l2=false∧l1=true:=by simpa using hc
    obtain ⟨c,e,f,p,q⟩:=hW.k0
    refine GoJ.load (v:=dv) (w0:=wl) k_at1_2 k_g1_2 Zr k_op1_2 (ad:=⟨b0,0,none⟩) rfl hW.nS.1 q p (by rw [hW.kd];exact hW.kl.d) ?_
    rw [k_d1_2,k_put2,k_set2]
    exact ih t' l0 true true l3 l4 l5 l6 l7 (off2 hoff) (fun _=>rfl) (fun h=>⟨rfl,(h4 h).2⟩)
   ·obtain rfl:l3=false:=by simpa using hc
    refine GoJ.map k_at1_3 k_g1_3 Zr hW.bx k_op1_3 ?_
    rw [show (mapW w0 false).heap.size=mb from hmb.symm,k_d1_3,k_put3,k_set3]
    exact ih t' l0 l1 l2 true l4 l5 l6 l7 (off3 hoff) h2 (fun h=>⟨(h4 h).1,rfl⟩)
   ·obtain ⟨rfl,rfl,rfl⟩:l4=false∧l2=true∧l3=true:=by simpa [and_assoc] using hc
    refine GoJ.pure k_at1_4 k_g1_4 Zr (fun w=>⟨qcR rfl (b:=mb) (y0:=y0) (y1:=y1) (y2:=y2) (y3:=y3) (y4:=y4) qdE hW.kd rfl,qbG (b:=mb) (y0:=y0) (y1:=y1) (y2:=y2) (y3:=y3) (y4:=y4) qdE hW.kd rfl⟩) ?_
    rw [k_d1_4,k_put4,k_set4]
    exact ih t' l0 l1 true true true l5 l6 l7 (off4 hoff) h2 (fun _=>⟨rfl,rfl⟩)
   ·obtain rfl:l5=false:=by simpa using hc
    obtain ⟨c,e,f,p,q⟩:=hW.k1
    refine GoJ.load (w0:=wl) k_at1_5 k_g1_5 Zr k_op1_5 (ad:=⟨b0+1,0,none⟩) rfl hW.nS.2.1 q p hW.kl.l ?_
    rw [k_d1_5,k_put5,k_set5]
    exact ih t' l0 l1 l2 l3 l4 true l6 l7 (off5 hoff) h2 h4
   ·obtain rfl:l6=false:=by simpa using hc
    obtain ⟨c,e,f,p,q⟩:=hW.k2
    refine GoJ.load (w0:=wl) k_at1_6 k_g1_6 Zr k_op1_6 (ad:=⟨b0+2,0,none⟩) rfl hW.nS.2.2.1 q p hW.kl.s ?_
    rw [k_d1_6,k_put6,k_set6]
    exact ih t' l0 l1 l2 l3 l4 l5 true l7 (off6 hoff) h2 h4
   ·obtain rfl:l7=false:=by simpa using hc
    obtain ⟨c,e,f,p,q⟩:=hW.k3
    refine GoJ.load (w0:=wl) k_at1_7 k_g1_7 Zr k_op1_7 (ad:=⟨b0+3,0,none⟩) rfl hW.nS.2.2.2.1 q p hW.kl.m ?_
    rw [k_d1_7,k_put7,k_set7]
    exact ih t' l0 l1 l2 l3 l4 l5 l6 true (off7 hoff) h2 h4
   ·obtain ⟨rfl,rfl,rfl,rfl⟩:l4=true∧l5=true∧l6=true∧l7=true:=by simpa [and_assoc] using hc
    obtain ⟨rfl,rfl⟩:=h4 rfl
    obtain rfl:=h2 rfl
    rw [show (#[l0,true,true,true,true,true,true,true,false,false]:Array Bool).setIfInBounds 8 true=#[l0,true,true,true,true,true,true,true,true,false] from rfl,k_left l0 fuel t' hoff]
    have hst:∀w,stepG Tryz.prog false (G (kb.at ⟨kT cb b0 ch mb dv lv sv mv y0 y1 y2 y3 y4 l0 true true true true true true true,[yR ch]⟩ [.inRegion kO1 (8 :: left l0)]) [qbc]) w=.go (G (Frame.enter Tryz.prog 85 #[.agg #[y0,y1,y2,y3,y4,.map (some mb)],lv,sv,mv] .normal) [kb.at ⟨kT cb b0 ch mb dv lv sv mv y0 y1 y2 y3 y4 l0 true true true true true true true,[yR ch]⟩ [.inRegion kO1 (8 :: left l0)],qbc]) w #[]:=fun w=>by
     rw [stepG_enter qdA (by unfold Region.wanted;rw [k_g1_8]) Zr (run_call_body qdF YW (by kernel_rfl) (by kernel_rfl)),k_args]
     unfold listed
     rw [events_call_body qdF YW (by kernel_rfl) (by kernel_rfl),seen_none]
    exact GoJ.ctl rfl hst (Goes.stop fun w1 ⟨d,hd⟩=>⟨l0,d,rfl,hd⟩)
   ·exfalso
    simp at hc
end
end Go.Proofs.Tryz
end
section
namespace Go.Proofs.Tryz
open Go Go.Conc Go.Sim Go.RowKit
open Go.ConcN (upd upd_ne upd_same)
theorem k_sched (mixed:Bool) (t:Nat):Region.schedule mixed kO1 t=Region.linearise.go .any kO1 10 t #[false,false,false,false,false,false,false,false,false,false] []:=by
 have h:Region.departs kO1=false:=by kernel_rfl
 simp only [Region.schedule,h,Bool.not_false,Bool.or_true,if_true,Region.linearise,k_size1]
 rfl
theorem k_loud:(Tryz.prog.funcs[kb.fn]?).any (·.norace)=false:=by kernel_rfl
section
variable {S Bx:Nat→Prop} {cb b0 ch mb:Nat} {dv lv sv mv y0 y1 y2 y3 y4:Value}
theorem kid_way {w0 wl:World} (hmb:mb=w0.heap.size) (hK:KidK S Bx cb b0 ch mb dv lv sv mv y0 y1 y2 y3 y4 w0 wl) :
 GoJ Tryz.prog false S Bx (qaD cb b0 ch mb dv lv sv mv y0 y1 y2 y3 y4 w0) 17 (born Tryz.prog (qab cb b0)) w0:=by
 refine GoJ.ctl rfl (k_born cb b0) ?_
 rw [k_body]
 refine GoJ.ctl rfl (fun _=>stepG_seq) ?_
 refine GoJ.ctl rfl (fun _=>stepG_region) ?_
 rw [k_size0]
 simp only [List.range,List.range.loop]
 refine GoJ.load k_at0_0 k_g0_0 Zr k_op0_0 (ad:=⟨cb,0,none⟩) rfl hK.nS.2.2.2.2 hK.kc hK.kc (ZP hK.kc) ?_
 rw [k_d0_0]
 change GoJ _ _ _ _ _ _ (G (kb.at ⟨kT cb b0 ch mb dv lv sv mv y0 y1 y2 y3 y4 false false false false false false false false,[]⟩ _) _) _
 refine GoJ.ctl rfl (qbC (ch:=ch) rfl) ?_
 refine GoJ.ctl rfl (fun _=>stepG_region_end) ?_
 refine GoJ.draw fun t=>?_
 rw [k_sched]
 exact kid_ops hmb hK 10 t false false false false false false false false rfl (fun h=>by cases h) (fun h=>by cases h)
def KidSends (ch:Nat) (x:Value) (w0:World) (g:Goroutine) (w:World):Prop :=
 ∃(T:Array Value) (d:Nat),g=G (kb.at ⟨T,[yR ch]⟩ [.inRegion kO1 [9]]) [qbc]∧Go.Act.eval ⟨T,[yR ch]⟩ (.tmp 6)=.chan (some ch)∧Go.Act.eval ⟨T,[yR ch]⟩ (.tmp 14)=x∧w=w0.at d
theorem kid_back {w:World} {l0:Bool} {x:Value} (hS:¬ S cb) (hcb:w.heap[cb]? = some (.cells #[.chan (some ch)] 139 (0,0))) :
 GoJ Tryz.prog false S Bx (KidSends ch x w) 1 (G (kb.at (Go.Act.put ⟨kT cb b0 ch mb dv lv sv mv y0 y1 y2 y3 y4 l0 true true true true true true true,[yR ch]⟩ ((kO1[8]?).bind (·.dst)) x) (.inRegion kO1 (left l0) :: [])) [qbc]) w:=by
 rw [qdA,Option.bind_some,k_d1_8]
 cases l0 with
 | true=>exact Goes.stop fun w1 ⟨d,hd⟩=>⟨_,d,rfl,rfl,rfl,hd⟩
 | false =>
   refine GoJ.load qdz k_g1_0 Zr qdD (ad:=⟨cb,0,none⟩) rfl hS hcb hcb (ZP hcb) ?_
   rw [k_d1_0]
   exact Goes.stop fun w1 ⟨d,hd⟩=>⟨_,d,rfl,rfl,rfl,hd⟩
theorem qey {T:Array Value} {ds:List Deferred} {x:Value} {cs:List Frame} (h6:Go.Act.eval ⟨T,ds⟩ (.tmp 6)=.chan (some ch)) (h14:Go.Act.eval ⟨T,ds⟩ (.tmp 14)=x) (w:World) :
 stepG Tryz.prog false (G (kb.at ⟨T,ds⟩ [.inRegion kO1 [9]]) cs) w=.comm (core (G (kb.at ⟨T,ds⟩ [.inRegion kO1 [9]]) cs)) #[scase ch x undef] true .send w #[]:=by
 have hr:(execOp (Go.Act.eval ⟨T,ds⟩) (kO 1 9)).run Tryz.prog w=.ok (.comm #[scase ch x undef] true .send) w:=by
  unfold execOp
  rw [qdG]
  simp only [h6,h14]
  rfl
 have he:(execOp (Go.Act.eval ⟨T,ds⟩) (kO 1 9)).events Tryz.prog w #[]=#[]:=by
  unfold execOp
  rw [qdG]
  simp only [h6,h14]
  rfl
 rw [stepG_comm qdB (by unfold Region.wanted;rw [k_g1_9]) Zr hr,listed_none he,core_G]
theorem sent {T:Array Value} {ds:List Deferred} {cs:List Frame}:Conc.served (core (G (kb.at ⟨T,ds⟩ [.inRegion kO1 [9]]) cs)) undef=G (kb.at ⟨T,ds⟩ [.inRegion kO1 []]) cs:=by
 rw [core_G,served_G,qdB,Option.bind_some,k_d1_9];rfl
theorem kid_tail (T:Array Value):QuitsD Tryz.prog 2 0 (G { kb.at ⟨T,[]⟩ [] with mode:=.returning } [qbc]):=by
 refine QuitsD.ctl (g':=G qbc []) rfl (fun w=>?_) ?_
 ·simp [G,stepG,unwind,doReturn,results,Frame.at,kb,baseD,qbc,Tryz.func102,Tryz.f102,seen,GStep.after,goexitEntry]
 refine QuitsD.ctl (g':={ G qbc [] with status:=.finished }) rfl (fun w=>?_) ⟨rfl,rfl⟩
 simp [G,stepG,unwind,qbc,goexitEntry,Frame.catches]
 rfl
theorem qdI (T:Array Value):Closing Tryz.prog ch 2 (G (kb.at ⟨T,[yR ch]⟩ [.inRegion kO1 []]) [qbc]):=by
 refine .ctl rfl (fun _=>stepG_region_end) ?_
 refine .ctl rfl (fun _=>stepG_end) ?_
 refine .close rfl rfl fun w1 s tm hc=>⟨_,2,?_,kid_tail T⟩
 have hr:=run_close_open (P:=Tryz.prog) (w:=w1) #[139] 0 hc
 have he:=events_close_open (P:=Tryz.prog) (w:=w1) (es:=#[]) #[139] 0 hc
 have hs:seen Tryz.prog kb.fn ((#[].push ⟨.obj ch,false,true⟩).push ⟨.obj ch,true,true⟩)=#[⟨.obj ch,false,true⟩,⟨.obj ch,true,true⟩]:=seen_eq k_loud (by intro e he f;simp at he;rcases he with rfl | rfl <;> simp)
 have hb:(builtin .close #[139] 0 #[false] #[.chan (some ch)]).run Tryz.prog w1=.ok (.value (.tuple #[])) (w1.shut ch s s tm):=by
  show ((Builtin.close_ #[139] 0 #[.chan (some ch)]) >>= fun x=>Pure.pure (Next.value x)).run _ _=_
  rw [Sem.run_bind,hr];rfl
 have hbe:(builtin .close #[139] 0 #[false] #[.chan (some ch)]).events Tryz.prog w1 #[]=#[⟨.obj ch,false,true⟩,⟨.obj ch,true,true⟩]:=by
  show ((Builtin.close_ #[139] 0 #[.chan (some ch)]) >>= fun x=>Pure.pure (Next.value x)).events _ _ _=_
  rw [Sem.events_bind,hr,he];rfl
 simp only [G,stepG,unwind,callDeferred,yR,Frame.at,invoke]
 simp only [Sem.runT_eq,hb,hbe]
 have hs':seen Tryz.prog kb.fn #[⟨.obj ch,false,true⟩,⟨.obj ch,true,true⟩]=#[⟨.obj ch,false,true⟩,⟨.obj ch,true,true⟩]:=hs
 rw [hs']
 rfl
end
end Go.Proofs.Tryz
end
section
namespace Go.Proofs.Tryz
open Go Go.Conc Go.Sim Go.RowKit
open Go.ConcN (upd upd_ne upd_same sumTo)
def w0L:List Nat:=[85,57,38,90,50,88,117,116,89,118,51,93,121]
def w0B (f:Nat):Bool:=w0L.contains f
def w0F (f:Nat):List Nat :=
 if f=116 then [1,11] else if f=118 then [1,11] else if f=89 then [1,6] else if f=38 then [78] else if f=88 then [8] else []
def w0ok (P:Program) (f:Nat):Bool:=match P.funcs[f]? with
 | some fn => !(fn.name == "runtime.NumGoroutine") && (match fn.body with | some x=>xP w0B w0F f x | none=>false)
 | none=>false
theorem w0_ok:w0L.all (w0ok qj)=true:=by kernel_rfl
theorem w0_code:XH w0B w0F qj:=fun f hf=>by
 have h:=w0_ok
 rw [List.all_eq_true] at h
 have:=h f (by simpa [w0B] using hf)
 unfold w0ok at this
 cases e:qj.funcs[f]? with
 | none=>rw [e] at this;cases this
 | some fn =>
   rw [e] at this
   simp only [Bool.and_eq_true,Bool.not_eq_true'] at this
   obtain ⟨h1,h2⟩:=this
   cases e2:fn.body with
   | none=>rw [e2] at h2;cases h2
   | some x=>rw [e2] at h2;exact ⟨fn,x,rfl,e2,h1,h2⟩
def NewP (B B':Nat) (b c:Nat):Prop:=(∃i,i < 4∧b=B+i∧c=B'+i)∨(b=B+4∧c=B'+6)
section
variable {K Ks:Cfg} {c g:Nat→Bool} {Fin:Goroutine→World→Prop}
theorem Zy {C:FuncId→Prop} {R:Nat→Nat→Prop} {xs xs':Array Value} (h:AR C R xs xs') (i:Nat):VR C R (xs.getD i undef) (xs'.getD i undef):=h.getD i VR.undef
theorem agg5_inv {C:FuncId→Prop} {R:Nat→Nat→Prop} {y0 y1 y2 y3 y4 z:Value} (h:VR C R (.agg #[y0,y1,y2,y3,y4]) z):∃z0 z1 z2 z3 z4,z=.agg #[z0,z1,z2,z3,z4]∧VR C R y0 z0∧VR C R y1 z1∧VR C R y2 z2∧VR C R y3 z3∧VR C R y4 z4:=by
 obtain ⟨zs,rfl,hz⟩:=h.agg_inv
 obtain ⟨a,b,c,d,e,rfl⟩:=agg5 hz.size.symm
 exact ⟨a,b,c,d,e,rfl,hz.el 0 _ _ rfl rfl,hz.el 1 _ _ rfl rfl,hz.el 2 _ _ rfl rfl,hz.el 3 _ _ rfl rfl,hz.el 4 _ _ rfl rfl⟩
theorem tried_w0 {R:Nat→Nat→Prop} {w w' w2:World} {xs xs':Array Value} (h:W0 K R w w') (hxs:AR K.C R xs xs') (hA:AtGo w' w2 (xs'.getD 0 undef) (xs'.getD 1 undef) (xs'.getD 2 undef) (xs'.getD 3 undef)) :
 W0 K (Or2 R (NewP w.heap.size w'.heap.size)) ((boxes w (xs.getD 0 undef) (xs.getD 1 undef) (xs.getD 2 undef) (xs.getD 3 undef)).alloc (.map #[] 0)) (w2.alloc (.map #[] 0)):=by
 have hle:∀b c,R b c→Or2 R (NewP w.heap.size w'.heap.size) b c:=fun _ _ h=>.inl h
 refine h.add (fun b hb=>by rw [qK _ _ (by rw [qQ];omega),Qf hb]) (by rw [qP,qQ];omega) (fun c hc=>by rw [qK _ _ (by rw [hA.size];omega),hA.low c (by omega),Qf hc]) (by rw [qP,hA.size];omega) ?_ ?_ ?_
 ·intro b c hp
  rcases hp with ⟨i,hi,rfl,rfl⟩ | ⟨rfl,rfl⟩
  ·refine ⟨by omega,by omega,?_⟩
   rw [qK _ _ (by rw [qQ];omega),qK _ _ (by rw [hA.size];omega),hA.low _ (by omega)]
   match i,hi with
   | 0,_=>exact ⟨_,_,QG,QG,.cells _ ((Zy hxs 0).mono hle).cells FzR.none⟩
   | 1,_=>exact ⟨_,_,QH,QH,.cells _ ((Zy hxs 1).mono hle).cells FzR.none⟩
   | 2,_=>exact ⟨_,_,QI,QI,.cells _ ((Zy hxs 2).mono hle).cells FzR.none⟩
   | 3,_=>exact ⟨_,_,QJ,QJ,.cells _ ((Zy hxs 3).mono hle).cells FzR.none⟩
  ·refine ⟨by omega,by omega,_,_,?_,?_,OR.map (es:=#[]) (es':=#[]) 0 rfl fun i e e' x=>by simp at x⟩
   ·rw [show w.heap.size+4=(boxes w (xs.getD 0 undef) (xs.getD 1 undef) (xs.getD 2 undef) (xs.getD 3 undef)).heap.size from qQ.symm,xm]
   ·rw [show w'.heap.size+6=w2.heap.size from hA.size.symm,xm]
 ·intro b c d h k
  rcases h with ⟨i,_,e1,rfl⟩ | ⟨e1,rfl⟩ <;> rcases k with ⟨j,_,e2,rfl⟩ | ⟨e2,rfl⟩ <;> omega
 ·intro b c d h k
  rcases h with ⟨i,_,rfl,e1⟩ | ⟨rfl,e1⟩ <;> rcases k with ⟨j,_,rfl,e2⟩ | ⟨rfl,e2⟩ <;> omega
theorem qaj (Z:Cov K qj Tryz.prog c g (fun f=>f=70)) (Zs:Cov Ks qj qj c g (fun _=>False)) (hcw:K.C 85):qaF K Ks qj Tryz.prog g (fun f=>f=70) Fin:=by
 intro bs S R q w gs a w' sl t hE hM hR hT hI
 obtain ⟨f,xs,xs',k,k',rfl,hxs,hk,rfl,rfl⟩:=hE
 obtain ⟨cf,cr,cf',cr',rfl,rfl,hcr⟩:∃cf cr cf' cr',k=cf :: cr∧k'=cf' :: cr'∧cr≠[]:=by
  cases hk with
  | @one a a' _ _=>exact ⟨_,_,_,_,rfl,rfl,bs.ne⟩
  | @cons a a' k k' _ h=>exact ⟨_,_,_,_,rfl,rfl,by cases h <;> simp⟩
 have hD:SD Ks g Fin { frame:=Frame.enter qj 70 xs .normal,callers:=cf :: cr,status:=.running,dying:=none } w (JG 17 xs) [.code Qb] (cf :: cr) w:=by
  have e:G (sb.at ⟨fT 17 (JG 17 xs),[]⟩ [.code Qb]) (cf :: cr)={ frame:=Frame.enter qj 70 xs .normal,callers:=cf :: cr,status:=.running,dying:=none }:=by rw [qeE];rfl
  show Dn _ _ _ _ _ _ (G (sb.at ⟨fT 17 (JG 17 xs),[]⟩ [.code Qb]) (cf :: cr)) _
  rw [e]
  exact ⟨hT,hM.self,.refl _ _⟩
 have hbad:=hD.bad
 obtain ⟨v,y0,y1,y2,y3,y4,lv,sv,mv,hL,hD1⟩:=src_walk Zs hD
 have hRA:RM Tryz.prog S gs (G (tb.at ⟨fT 18 (JG 18 xs'),[]⟩ [.code Zu]) (cf' :: cr')) w' t:=by
  have e:G (tb.at ⟨fT 18 (JG 18 xs'),[]⟩ [.code Zu]) (cf' :: cr')={ frame:=Frame.enter Tryz.prog 70 xs' .normal,callers:=cf' :: cr',status:=.running,dying:=none }:=by rw [qci];rfl
  rw [e];exact hR
 obtain ⟨n0,hgo⟩:=way_go (cs:=cf' :: cr') (w:=w') (S:=S) hM.low (v:=JG 18 xs') (x0:=xs'.getD 0 undef) (x1:=xs'.getD 1 undef) (x2:=xs'.getD 2 undef) (x3:=xs'.getD 3 undef) rfl rfl rfl rfl
 obtain ⟨N1,gs1,a1,w1,sl1,t1,run1,hRM1,u,w2,d,rfl,u12,u9,hA,rfl⟩:=RM.walk (sl:=sl) (fun _ _ _ h=>⟨h.1,fun e he=>(h.2.2 e he).1⟩) hRA hgo
 have hB0:∀c,S c→c < w'.heap.size:=hM.low
 obtain ⟨Bx,hBx⟩:∃Bx:Nat→Prop,Bx=fun b=>b=w'.heap.size+4∨b=w'.heap.size+5:=⟨_,rfl⟩
 have bxlt:∀b,Bx b→b < w2.heap.size∧¬ S b:=fun b hb=>by
  rw [hBx] at hb
  refine ⟨by rw [hA.size];omega,fun h=>?_⟩
  have:=hB0 b h
  omega
 have bch:Bx (w'.heap.size+4):=by rw [hBx];exact .inl rfl
 have bcb:Bx (w'.heap.size+5):=by rw [hBx];exact .inr rfl
 obtain ⟨N2,gs2,d2,sl2,t2,j,qq2,run2,hRJ⟩:=RM.fork (sl:=sl1) hRM1 rfl (child:=born Tryz.prog (qab (w'.heap.size+5) w'.heap.size)) rfl (fun d=>go_step u12 _) (fun b hb=>bxlt b hb) ⟨bch,0,false,hA.ch⟩ (stand1 (w:=w2.at d) bcb hA.cb u9)
 have hW:=tried_w0 hM.w0 hxs hA
 obtain ⟨R1,hR1⟩:∃R1,R1=Or2 R (NewP w.heap.size w'.heap.size):=⟨_,rfl⟩
 rw [← hR1] at hW
 obtain ⟨ws,hws⟩:∃ws,ws=(boxes w (xs.getD 0 undef) (xs.getD 1 undef) (xs.getD 2 undef) (xs.getD 3 undef)).alloc (.map #[] 0):=⟨_,rfl⟩
 rw [← hws] at hL hD1 hW
 obtain ⟨wt,hwt⟩:∃wt,wt=w2.alloc (.map #[] 0):=⟨_,rfl⟩
 rw [← hwt] at hW
 have hsb:∀b,b < w.heap.size+4→ws.heap[b]? = (boxes w (xs.getD 0 undef) (xs.getD 1 undef) (xs.getD 2 undef) (xs.getD 3 undef)).heap[b]? := fun b hb=>by rw [hws];exact qK _ _ (by rw [qQ];exact hb)
 have hsz:ws.heap.size=w.heap.size+5:=by rw [hws,qP,qQ]
 have htb:∀c,c < w'.heap.size+6→wt.heap[c]? = w2.heap[c]? := fun c hc=>by rw [hwt];exact qK _ _ (by rw [hA.size];exact hc)
 have hsz':wt.heap.size=w'.heap.size+7:=by rw [hwt,qP,hA.size]
 have pr:∀i,i < 4→R1 (w.heap.size+i) (w'.heap.size+i):=fun i hi=>by rw [hR1];exact .inr (.inl ⟨i,hi,rfl,rfl⟩)
 have prm:R1 (w.heap.size+4) (w'.heap.size+6):=by rw [hR1];exact .inr (.inr ⟨rfl,rfl⟩)
 have hX0:Ext0 K R R1 w w' ws wt:=⟨fun b c h=>by rw [hR1];exact .inl h,fun b c h=>by
  rw [hR1] at h
  rcases h with h | ⟨i,hi,rfl,rfl⟩ | ⟨rfl,rfl⟩
  ·exact .inl h
  ·exact .inr ⟨by omega,by omega⟩
  ·exact .inr ⟨by omega,by omega⟩,by omega,by omega,fun c hc _=>by rw [htb c (by omega),hA.low c (by omega),Qf hc],by rw [hwt];exact hA.rest.1,by rw [hwt];exact hA.rest.2.1,by rw [hwt];exact hA.rest.2.2,fun b _ hb=>by rw [hsb b (by omega),Qf hb]⟩
 obtain ⟨_,z,l28,hz⟩:=Qm Z hW (ad:=⟨w.heap.size,0,none⟩) (ad':=⟨w'.heap.size,0,none⟩) ⟨pr 0 (by decide),rfl,rfl⟩ ((hsb w.heap.size (by omega)).trans QG) hL.d
 obtain ⟨z0,z1,z2,z3,z4,rfl,r0,r1,r2,r3,r4⟩:=agg5_inv hz
 obtain ⟨_,lv',l75,hlv⟩:=Qm Z hW (ad:=⟨w.heap.size+1,0,none⟩) (ad':=⟨w'.heap.size+1,0,none⟩) ⟨pr 1 (by decide),rfl,rfl⟩ ((hsb (w.heap.size+1) (by omega)).trans QH) hL.l
 obtain ⟨_,sv',l87,hsv⟩:=Qm Z hW (ad:=⟨w.heap.size+2,0,none⟩) (ad':=⟨w'.heap.size+2,0,none⟩) ⟨pr 2 (by decide),rfl,rfl⟩ ((hsb (w.heap.size+2) (by omega)).trans QI) hL.s
 obtain ⟨_,mv',l82,hmv⟩:=Qm Z hW (ad:=⟨w.heap.size+3,0,none⟩) (ad':=⟨w'.heap.size+3,0,none⟩) ⟨pr 3 (by decide),rfl,rfl⟩ ((hsb (w.heap.size+3) (by omega)).trans QJ) hL.m
 have hK:KidK S Bx (w'.heap.size+5) w'.heap.size (w'.heap.size+4) (w'.heap.size+6) (.agg #[z0,z1,z2,z3,z4]) lv' sv' mv' z0 z1 z2 z3 z4 w2 wt:=by
  have hS4:∀i,¬ S (w'.heap.size+i):=fun i h=>by have:=hB0 _ h;omega
  refine ⟨rfl,⟨l28,l75,l87,l82⟩,?_,?_,?_,?_,hA.cb,⟨hS4 0,hS4 1,hS4 2,hS4 3,hS4 5⟩,fun c hc=>(bxlt c hc).1⟩
  ·exact ⟨_,_,_,(htb _ (by omega)).trans ((hA.low _ (by omega)).trans QG),(hA.low _ (by omega)).trans QG⟩
  ·exact ⟨_,_,_,(htb _ (by omega)).trans ((hA.low _ (by omega)).trans QH),(hA.low _ (by omega)).trans QH⟩
  ·exact ⟨_,_,_,(htb _ (by omega)).trans ((hA.low _ (by omega)).trans QI),(hA.low _ (by omega)).trans QI⟩
  ·exact ⟨_,_,_,(htb _ (by omega)).trans ((hA.low _ (by omega)).trans QJ),(hA.low _ (by omega)).trans QJ⟩
 obtain ⟨N3,gs3,a3,w3,sl3,t3,m3,qq3,run3,⟨l0,d3,rfl,hw3⟩,hRJ3⟩:=RMJ.walk (fun _ _ _ h=>h) _ 17 gs2 _ ((w2.at d).at d2) sl2 t2 _ qq2 (Nat.le_refl _) hRJ (kid_way (w0:=(w2.at d).at d2) (wl:=wt) (hA.size.symm) ⟨hK.kd,hK.kl,hK.k0,hK.k1,hK.k2,hK.k3,hK.kc,hK.nS,hK.bx⟩)
 have hw3':w3=wt.at d3:=by rw [hw3,hwt];rfl
 rw [hw3'] at run3 hRJ3
 clear hw3 hw3'
 have bx1:∀b c,R1 b c→¬ Bx c:=fun b c h hb=>by
  rw [hBx] at hb
  rw [hR1] at h
  rcases h with h | ⟨i,hi,_,rfl⟩ | ⟨_,rfl⟩
  ·have:=hM.w0.low h;omega
  ·omega
  ·omega
 have sh1:∀b c,R1 b c→¬ S c:=fun b c h hs=>by
  have hs':=hB0 c hs
  rw [hR1] at h
  rcases h with h | ⟨i,hi,_,rfl⟩ | ⟨_,rfl⟩
  ·exact hM.shun b c h hs
  ·omega
  ·omega
 obtain ⟨_,_,_,hnd,_⟩:=id hD1.self
 have hX0d:Ext0 K R R1 w w' ws (wt.at d3):=⟨hX0.le,hX0.new,hX0.size,hX0.size',hX0.stay,hX0.tp',hX0.os',hX0.out',hX0.held⟩
 have hM1:MS K Ks qj Tryz.prog g S R1 _ ws (wt.at d3):=⟨⟨hW.fn,hW.inj,hW.obj,hW.fz,hW.glob,hW.big,hW.big'⟩,hnd,hD1.self,fun n hn=>by rw [hR1];exact .inl (hM.glob n hn),sh1,fun c hc=>by show c < wt.heap.size;have:=hB0 c hc;omega,ZA hM.keep hM.w0 hX0d⟩
 have hAR:AR K.C R1 #[.agg #[y0,y1,y2,y3,y4,.map (some (w.heap.size+4))],lv,sv,mv] #[.agg #[z0,z1,z2,z3,z4,.map (some (w'.heap.size+6))],lv',sv',mv'] :=
  (((AR.nil.push ((((((AR.nil.push r0).push r1).push r2).push r3).push r4).push (.map prm)).agg).push hlv).push hsv).push hmv
 have hbad2:BadK (sb.at ⟨fT 17 v,[]⟩ (.inRegion sO [11,12] :: [.code .ret]) :: cf :: cr):=.cons (fun d hd=>by cases hd) hbad
 obtain ⟨N4,gs4,w4,sl4,t4,x,x',w4s,R4,m4,qq4,run4,hRJ4,hB4,hT4,hM4,hx,hX4,bx4⟩:=qdJ (sl:=sl3) Z Zs w0_code (fun f hf=>by subst hf;decide) (by decide) (by decide) (List.cons_ne_nil _ _) hD1.lt hM1 hAR hcw bx1 hbad2 hRJ3
 have stay4:∀c,Bx c→w4.heap[c]? = w2.heap[c]? := fun c hc=>by
  have hlt:=(bxlt c hc).1
  rw [hA.size] at hlt
  rw [hX4.stay c (by show c < wt.heap.size;omega) fun b hb=>absurd hc (bx1 b c hb)]
  exact htb c hlt
 obtain ⟨N5,gs5,a5,w5,sl5,t5,m5,qq5,run5,⟨T,d5,rfl,h6,h14,rfl⟩,hRJ5⟩:=RMJ.walk (fun _ _ _ h=>h) _ 1 gs4 _ w4 sl4 t4 _ qq4 (Nat.le_refl _) hRJ4 (kid_back (cb:=w'.heap.size+5) (hK.nS.2.2.2.2) ((stay4 _ bcb).trans hA.cb))
 obtain ⟨N6,gs6,sl6,t6,g0,d6,s6,tm6,qq6,run6,hQ6,hch6,hRM6⟩:=RMJ.meet rfl _ gs5 _ sl5 t5 m5 qq5 (Nat.le_refl _) (fun d=>qey h6 h14 _) hRJ5
 obtain ⟨_,at6⟩:=hQ6 _ (YV _ _)
 obtain ⟨u6,e6,u613,u610,u614⟩:=Jr (y:=x') (op:=true) at6
 rw [e6,sent] at hRM6
 obtain ⟨N7,gs7,sl7,t7,d7,s7,tm7,p7,m7,qq7,run7,hch7,hRD⟩:=RMM.shut (Bx:=fun _=>False) _ gs6 _ _ _ sl6 t6 2 15 qq6 (Nat.le_refl _) hRM6 (stand2 u613 u614) (qdI T) (fun _ h=>h.elim)
 obtain ⟨N8,gs8,sl8,t8,g8,d8,run8,hQ8,hRM8⟩:=RMD.done _ gs7 _ sl7 t7 m7 qq7 (Nat.le_refl _) hRD
 obtain ⟨u8,e8,u813,u810,u814⟩:=Jr (y:=zI) (op:=false) (hQ8 _ (YV _ _))
 rw [e8] at hRM8
 obtain ⟨N9,gs9,a9,w9,sl9,t9,run9,hRM9,rfl,d9,hw9⟩:=RM.walk (sl:=sl8) (fun _ _ _ h=>⟨h.1,fun e he=>(h.2.2 e he).1⟩) hRM8 (way_end (Bx:=fun _=>False) u810 u814)
 have hfin:w9.heap.size=w4.heap.size∧(∀c,c≠w'.heap.size+4→w9.heap[c]? = w4.heap[c]?)∧w9.tape=w4.tape∧w9.os=w4.os∧w9.output=w4.output:=by
  rw [hw9]
  refine ⟨?_,fun c hc=>?_,rfl,rfl,rfl⟩
  ·show ((w4.heap.setIfInBounds _ _).setIfInBounds _ _).size=_
   simp
  ·show ((w4.heap.setIfInBounds _ _).setIfInBounds _ _)[c]? = _
   rw [Array.getElem?_setIfInBounds_ne (Ne.symm hc),Array.getElem?_setIfInBounds_ne (Ne.symm hc)]
 obtain ⟨f1,f2,f3,f4,f5⟩:=hfin
 clear hw9
 have hX:Ext0 K R R4 w w' w4s w4:=hX0d.trans hX4
 have hX9:Ext0 K R R4 w w' w4s w9:=⟨hX.le,hX.new,hX.size,by rw [f1];exact hX.size',fun c hc h=>by rw [f2 c (by omega)];exact hX.stay c hc h,f3.trans hX.tp',f4.trans hX.os',f5.trans hX.out',hX.held⟩
 have ne4:∀b c,R4 b c→c≠w'.heap.size+4:=fun b c h e=>bx4 b c h (e▸bch)
 have hM9:=MS.other (S':=fun c=>S c∨c=w'.heap.size+4) hM4 (w2:=w9) (fun b c h=>f2 c (ne4 b c h)) (by rw [f1];exact Nat.le_refl _) (fun b c h hs=>hs.elim (hM4.shun b c h) (ne4 b c h)) (fun c hc=>by
  rw [f1]
  have h7:=hX4.size'
  have h8:(wt.at d3).heap.size=wt.heap.size:=rfl
  rcases hc with hc | hc
  ·have:=hB0 c hc;omega
  ·omega)
 have hDn:=src_back Zs hcr ⟨hT4,hM4.self,.refl _ _⟩
 have hne:∀(b:Frame) (z:Value),G b (cf :: cr)≠G (cf.finish z) cr:=fun b z e=>by
  have:=congrArg (fun y:Goroutine=>y.callers.length) e
  simp [G] at this
 have hne1:∀(fr:Frame) (l:Frame),({ frame:=Frame.enter qj 70 xs .normal,callers:=cf :: cr,status:=.running,dying:=none }:Goroutine)≠G fr (l :: cf :: cr):=fun fr l e=>by
  have:=congrArg (fun y:Goroutine=>y.callers.length) e
  simp [G] at this
 have hrun:=qO (qO (qO (qO (qO (qO (qO (qO run1 run2) run3) run4) run5) run6) run7) run8) run9
 refine JP hrun (Desc.below_or (hD1.desc.below1 (hne1 _ _)) hB4.desc) hX9 (Sm:=fun c=>S c∨c=w'.heap.size+4) (fun c h=>h.imp id fun h=>by omega) ?_
 exact phase_end (P2:=fun _ _=>False) hM9 (hk.mono hX.le) hDn (hne _ _) (fun _ _=>rfl) (Nat.le_refl _) (fun _ _=>rfl) (Nat.le_refl _) (N:=0) rfl hRM9 (fun c h=>.inl h) hM9.low rfl rfl rfl (fun _ _ h=>h.elim) (fun _ _ _ h=>h.elim) (fun _ _ _ h=>h.elim) (VR.mono (fun _ _ h=>.inl h) hx)
end
end Go.Proofs.Tryz
end
section
namespace Go.Proofs.Tryz
open Go Go.Conc Go.Sim Go.RowKit
def cxL:List Nat:=[3,4,5,6,7,8,9,10,11,12,13,14,15,16,17,18,19,20,21,22,23,24,25,26,27,28,29,30,31,32,33,34,35,36,37,38,39,40,41,42,43,44,45,46,47,48,49,50,51,52,53,54,55,56,57,58,59,60,61,62,63,64,65,66,67,68,69,71,72,73,74,75,76,77,78,79,80,81,82,83,84,85,86,87,88,89,90,91,92,93,94,95,96,97,98,99,100,101,103,104,105,106,107,108,109,110,111,112,113,114,115,116,117,118,119,120,121,122,123,124,125,126,127,128,129,130,131,132,133,134,135,136,137,138,139,140,141,142,143,144,145,161,163,164,165,166,167,168,169,170,171,172,173,174,175]
def YP (f:Nat):Bool:=cxL.contains f || f == 70
def gB (n:Nat):Bool:=n == 0
def okB (P:Program) (c:Nat→Bool) (f:Nat):Bool:=match P.funcs[f]? with
 | some fn => !(fn.name == "runtime.NumGoroutine") && (P.inits.idxOf? f == none) && (match fn.body with | some x=>zz P c gB x | none=>false)
 | none=>false
theorem ok_a:cxL.all (okB Tryz.prog YP)=true:=by kernel_rfl
theorem ok_a':(cxL ++ [70]).all (okB qj YP)=true:=by kernel_rfl
theorem zeros_ok:(Tryz.prog.types.all fun i=>match i.zero with | some v=>zw 8 v || (match v with | .tuple xs=>xs.size == 0 | _=>false) | none=>true)=true:=by kernel_rfl
theorem qeY {t:TypeId} {i:TypeInfo} {v:Value} (h:Tryz.prog.info? t=some i) (hv:i.zero=some v):xW v:=by
 refine qdu (T:=Tryz.prog.toTables) (fun k i v hk hv=>?_) h hv
 have hz:=zeros_ok
 rw [Array.all_eq_true'] at hz
 have:=hz i (Array.mem_of_getElem? hk)
 simp only [hv,Bool.or_eq_true] at this
 rcases this with h | h
 ·exact fun C R=>VR.plain 8 v h
 ·cases v with
  | tuple xs =>
    have:xs=#[]:=by simpa using h
    rw [this];exact fun C R=>VR.undef
  | _=>cases h
theorem qeB {P:Program} {k:Nat} (x:Func) (T:Program) {f:Nat} (h:k≠f) (hT:T.funcs=P.funcs.setIfInBounds k x):T.funcs[f]? = P.funcs[f]? := by rw [hT];exact Array.getElem?_setIfInBounds_ne h
theorem Jt {f:Nat} (h:f≠70):qj.funcs[f]? = Tryz.prog.funcs[f]? := by
 exact qeB qeD qj (Ne.symm h) (by kernel_rfl)
theorem Jh {P:Program} {c:Nat→Bool} {f:Nat} (h:okB P c f=true):∃fn x,P.funcs[f]? = some fn∧(fn.name == "runtime.NumGoroutine")=false∧P.inits.idxOf? f=none∧fn.body=some x∧zz P c gB x=true:=by
 unfold okB at h
 cases e:P.funcs[f]? with
 | none=>rw [e] at h;cases h
 | some fn =>
   rw [e] at h
   simp only [Bool.and_eq_true,Bool.not_eq_true',beq_iff_eq] at h
   obtain ⟨⟨h1,h2⟩,h3⟩:=h
   cases e2:fn.body with
   | none=>rw [e2] at h3;cases h3
   | some x=>rw [e2] at h3;exact ⟨fn,x,rfl,h1,h2,e2,h3⟩
theorem ZH {l:List Nat} {p:Nat→Bool} (h:l.all p=true) {f:Nat} (hf:l.contains f=true):p f=true:=by
 rw [List.all_eq_true] at h
 exact h f (by simpa using hf)
variable (Fz:Nat→Prop) (bs bt:Array Obj)
theorem Xg {f:Nat} (h:YP f=true):cxL.contains f=true∨f=70:=by
 unfold YP at h
 simpa only [Bool.or_eq_true,beq_iff_eq] using h
theorem qcK {f:Nat} (h:YP f=true):(cxL ++ [70]).contains f=true:=by
 rcases Xg h with h | h
 ·rw [List.contains_iff_mem] at h ⊢;exact List.mem_append.2 (.inl h)
 ·subst h;rw [List.contains_iff_mem];exact List.mem_append.2 (.inr (List.mem_singleton.2 rfl))
theorem cov_a:Cov (cfgOf qj Tryz.prog YP gB Fz bs bt) qj Tryz.prog YP gB (fun f=>f=70) where
 tables:=qR
 zero:=fun t i v h hv=>qeY h hv
 ng:=rfl
 call:=fun f hf=>by
  obtain ⟨fn',x',f1,f2,_,f3,_⟩:=Jh (ZH ok_a' (qcK hf))
  rcases Xg hf with h | rfl
  ·obtain ⟨fn,x,e1,e2,_,e3,_⟩:=Jh (ZH ok_a h)
   exact ⟨fn',fn,f1,e1,f2,e2,by rw [f3];rfl,by rw [e3];rfl⟩
  ·exact ⟨fn',Tryz.f70,f1,QY,f2,by kernel_rfl,by rw [f3];rfl,by kernel_rfl⟩
 hc:=fun f h=>h
 hD:=fun f x=>Iff.rfl
 body:=fun f hf hs=>by
  rcases Xg hf with h | h
  ·obtain ⟨fn,x,e1,e2,e4,e3,e5⟩:=Jh (ZH ok_a h)
   exact ⟨fn,x,(Jt hs).trans e1,e1,e3,⟨fn,(Jt hs).trans e1,e1,e4⟩,e5⟩
  ·exact absurd h hs
theorem cov_as:Cov (cfgOf qj qj YP gB Fz bs bt) qj qj YP gB (fun _=>False) where
 tables:=rfl
 zero:=fun t i v h hv=>qeY ((qbm t).symm.trans h) hv
 ng:=rfl
 call:=fun f hf=>by
  obtain ⟨fn',x',f1,f2,_,f3,_⟩:=Jh (ZH ok_a' (qcK hf))
  exact ⟨fn',fn',f1,f1,f2,f2,by rw [f3];rfl,by rw [f3];rfl⟩
 hc:=fun f h=>h
 hD:=fun f x=>Iff.rfl
 body:=fun f hf _=>by
  obtain ⟨fn,x,e1,e2,e4,e3,e5⟩:=Jh (ZH ok_a' (qcK hf))
  exact ⟨fn,x,e1,e1,e3,⟨fn,e1,e1,e4⟩,e5⟩
end Go.Proofs.Tryz
end
namespace Go.Proofs.Tryz
open Go
def fOf (f:Nat):Value:=.func (.func f) #[] #[]
def chkA:Array Value:=#[fOf 163,fOf 164,fOf 165,fOf 166,fOf 161]
structure Globs (w:World):Prop where
 c:∀(i:Nat) (v:Value),chkA[i]? = some v→w.cell? ⟨0,i,none⟩=some v
end Go.Proofs.Tryz
namespace Go.Proofs.Tryz
open Go Go.Conc Go.Sim Go.RowKit
theorem globs_tp {w:World} {t:Nat→Question→Nat} (h:Globs w):Globs (w.tp t):=⟨h.c⟩
section
variable (e0:TypeId) (f0:Nat×Nat)
def gBs:Array Obj:=#[.cells chkA e0 (0,max (max 5 f0.2) 1)]
variable {e0:TypeId} {f0:Nat×Nat}
theorem gB_eq {n:Nat} (h:gB n=true):n=0:=by simpa [gB] using h
theorem xx:(gBs e0 f0)[0]? = some (.cells chkA e0 (0,max (max 5 f0.2) 1)):=rfl
theorem qcN {C:FuncId→Prop} {R:Nat→Nat→Prop} (hC:∀f,YP f=true→C f):AR C R chkA chkA:=by
 have h:∀f,YP f=true→VR C R (fOf f) (fOf f):=fun f hf=>AR.func (hC f hf) AR.nil AR.nil
 exact ((((AR.nil.push (h _ (by decide +kernel))).push (h _ (by decide +kernel))).push (h _ (by decide +kernel))).push (h _ (by decide +kernel))).push (h _ (by decide +kernel))
theorem gBs_rel {C:FuncId→Prop} {D:FuncId→Code→Prop} {R:Nat→Nat→Prop} {W:World} (hC:∀f,YP f=true→C f) (hc:W.heap[0]? = some (.cells chkA e0 f0)) {n:Nat} (h:gB n=true) :
 ∃o o',(gBs e0 f0)[n]? = some o∧W.heap[n]? = some o'∧OR C D R o o':=by
 obtain rfl:=gB_eq h
 exact ⟨_,_,xx,hc,.cells e0 (qcN hC) fz_max⟩
theorem gBs_self {C:FuncId→Prop} {D:FuncId→Code→Prop} {R:Nat→Nat→Prop} (hC:∀f,YP f=true→C f) {n:Nat} (h:gB n=true):∃o,(gBs e0 f0)[n]? = some o∧OR C D R o o:=by
 obtain rfl:=gB_eq h
 exact ⟨_,xx,.cells e0 (qcN hC) (qdm (by omega))⟩
theorem gBs_fz {n:Nat} (h:gB n=true):∃c e hi,(gBs e0 f0)[n]? = some (.cells c e (0,hi))∧c.size≤hi:=by
 obtain rfl:=gB_eq h
 exact ⟨_,_,_,xx,by show 5≤max (max 5 f0.2) 1;omega⟩
theorem qdn {w:World} (h:∀n,gB n=true→w.heap[n]? = (gBs e0 f0)[n]?):Globs w:=by
 have h0:=(h 0 (by decide)).trans xx
 refine ⟨fun i v hv=>?_⟩
 unfold World.cell?
 simp only [h0]
 exact hv
end
abbrev XB (X:Nat→Prop) (b:Nat):Prop:=X b∧¬ gB b=true
inductive PlainX (X:Nat→Prop):Value→Prop
 | int (k:IntKind) (n:Int):PlainX X (.int k n)
 | str (s:ByteArray):PlainX X (.string s)
 | snil (l c:Nat):PlainX X (.slice none l c)
 | slice (a:Addr) (l c:Nat):X a.block→PlainX X (.slice (some a) l c)
 | zcap (a:Addr):PlainX X (.slice (some a) 0 0)
theorem PlainX.pl_eq {X:Nat→Prop} {v:Value} (h:PlainX X v):pl (fun b=>XB X b∨gB b=true) v=v:=by
 cases h with
 | int k n=>exact pl_int
 | str s=>exact pl_string
 | snil l c=>exact pl_snil
 | zcap a=>exact pl_zcap
 | slice a l c h =>
   refine pl_slice ?_
   by_cases hg:gB a.block=true
   ·exact .inr hg
   ·exact .inl ⟨h,hg⟩
theorem qcq {f:FuncId} {args:Array Value} {W:World} {e0:TypeId} {f0:Nat×Nat} {X:Nat→Prop} (hf:YP f=true) (hne:f≠70) (hX:∀b,X b→∃c e f,W.heap[b]? = some (.cells c e f)) (hargs:∀(C:FuncId→Prop) (R:Nat→Nat→Prop),(∀b,X b→R b b)→AR C R args args) (hng:Tryz.prog.globals.size≤W.heap.size)
 (hc:W.heap[0]? = some (.cells chkA e0 f0))
 (hC:∀w,Globs w→(∀b o v,X b→W.cell? ⟨b,o,none⟩=some v→PlainX X v→w.cell? ⟨b,o,none⟩=some v)→Calls qj f args w fun e w'=>e=.returned (.bool true)) :
 ∃N last o w' t',runNT Tryz.prog (N+1) (solo (G (Frame.enter Tryz.prog f args .normal) []) W) #[]=(.ended o w',t')∧runN Tryz.prog N (solo (G (Frame.enter Tryz.prog f args .normal) []) W)=.next last∧step Tryz.prog last=.ended o w' ∧
  Conc.Good Tryz.prog (fun v w'=>(∃_:World,v=.bool true)∧(∀k,k < W.heap.size→w'.heap[k]? = W.heap[k]?)∧W.heap.size≤w'.heap.size∧w'.os=W.os∧w'.output=W.output∧w'.tape=W.tape) last o w' t':=by
 obtain ⟨bs,hbs⟩:∃bs,bs=gBs e0 f0:=⟨_,rfl⟩
 have hGlobs:∀w:World,(∀n,gB n=true→w.heap[n]? = bs[n]?)→Globs w:=fun w h=>qdn (e0:=e0) (f0:=f0) (by rw [← hbs];exact h)
 have hfz:∀n,gB n=true→∃c e hi,bs[n]? = some (.cells c e (0,hi))∧c.size≤hi:=fun n h=>by rw [hbs];exact gBs_fz h
 have hrel:∀(C:FuncId→Prop) (D:FuncId→Code→Prop) (R:Nat→Nat→Prop),(∀f,YP f=true→C f)→∀n,gB n=true→∃o o',bs[n]? = some o∧W.heap[n]? = some o'∧OR C D R o o':=fun C D R h1 n h=>by rw [hbs];exact gBs_rel h1 hc h
 have hself:∀(C:FuncId→Prop) (D:FuncId→Code→Prop) (R:Nat→Nat→Prop),(∀f,YP f=true→C f)→∀n,gB n=true→∃o,bs[n]? = some o∧OR C D R o o:=fun C D R h1 n h=>by rw [hbs];exact gBs_self h1 h
 have hcell:∀b o v,gB b=true→W.cell? ⟨b,o,none⟩=some v→∀w:World,w.heap[b]? = bs[b]?→w.cell? ⟨b,o,none⟩=some v:=fun b o v hg hv w hw=>by
  rw [hbs] at hw
  obtain rfl:=gB_eq hg
  rw [xx] at hw
  unfold World.cell? at hv ⊢
  simp only [hc] at hv
  simp only [hw]
  exact hv
 have hlt:∀n,gB n=true→n < W.heap.size:=fun n h=>by
  obtain ⟨_,_,_,e,_⟩:=hrel (fun _=>True) (fun _ _=>True) (fun _ _=>True) (fun _ _=>trivial) n h
  exact (Array.getElem?_eq_some_iff.1 e).1
 obtain ⟨Ws,hWs⟩:∃Ws,Ws=xS (XB X) (fun n=>gB n=true) bs W:=⟨_,rfl⟩
 have hgs:∀n,gB n=true→Ws.heap[n]? = bs[n]? := fun n h=>by
  obtain ⟨o,e,_⟩:=hself (fun _=>True) (fun _ _=>True) (fun _ _=>True) (fun _ _=>trivial) n h
  rw [hWs,e]
  exact yP (hlt n h) h e
 have hd:∀b,XB X b→¬ gB b=true:=fun b h=>h.2
 have hXX:∀b,XB X b→∃c e f,W.heap[b]? = some (.cells c e f):=fun b h=>hX b h.1
 have hRX:∀b,X b→RS (XB X) (fun n=>gB n=true) b b:=fun b h=>⟨rfl,by
  by_cases hg:gB b=true
  ·exact .inr hg
  ·exact .inl ⟨h,hg⟩⟩
 have h0:W0 (cfgOf qj Tryz.prog YP gB (fun n=>XB X n∨gB n=true) Ws.heap W.heap) (RS (XB X) fun n=>gB n=true) Ws W:=by
  rw [hWs];exact small_w0 hXX hng (hrel _ _ _ fun f h=>h) hfz hd fun b=>Iff.rfl
 have h0s:W0 (cfgOf qj qj YP gB (fun n=>XB X n∨gB n=true) Ws.heap W.heap) (RS (XB X) fun n=>gB n=true) Ws Ws:=by
  rw [hWs];exact qcv hXX hng (fun b h=>⟨hlt b h,hself _ _ _ (fun f h=>h) b h⟩) hfz hd fun b=>Iff.rfl
 have hcells:∀b o v,X b→W.cell? ⟨b,o,none⟩=some v→PlainX X v→Ws.cell? ⟨b,o,none⟩=some v:=fun b o v hb hv hp=>by
  by_cases hg:gB b=true
  ·exact hcell b o v hg hv Ws (hgs b hg)
  ·rw [hWs,qcu hv ⟨hb,hg⟩ hg,hp.pl_eq]
 refine qas (cov_a _ Ws.heap W.heap) (cov_as (fun n=>XB X n∨gB n=true) Ws.heap W.heap) (Post:=fun v _=>v=.bool true) (qaj (cov_a _ Ws.heap W.heap) (cov_as _ _ _) (show YP 85=true by decide +kernel)) hf hne (hargs _ _ hRX) (hargs _ _ hRX) hf h0 h0s (by rw [hWs];exact qaw hfz) (fun n h=>⟨rfl,.inr h⟩) (fun b c h=>h.2) (fun n h=>⟨⟨rfl,h⟩,rfl,rfl⟩) (fun _ _ _ h=>h) (fun v _ h=>by rw [h];rfl) fun t=>?_
 refine (hC (Ws.tp t) ?_ ?_).mono fun e w' h1=>⟨_,h1,rfl⟩
 ·exact globs_tp (hGlobs Ws hgs)
 ·exact hcells
end Go.Proofs.Tryz
section
namespace Go.Proofs.YtjkenojgabamiaaGreatDoor
open Go Go.Conc Go.Sim Go.RowKit Go.ChangeShapes Go.WideShapes Go.ChangeAt
open Go.Proofs.Tryz
abbrev laidAll:List (String×DataW Unit):=[("baudot/route.checks",Rows.laid_baudot_route_checks)]
theorem ownK:ownKnob Tryz.prog.godebug=none:=by kernel_rfl
theorem gChecks:Tryz.prog.globalNamed "baudot/route.checks"=some 0:=by kernel_rfl
theorem tChecks:(Tryz.prog.globals[0]?).map (·.type)=some 157:=by kernel_rfl
theorem cInt:Tryz.prog.cellsOf 3=1:=by kernel_rfl
theorem cFn:Tryz.prog.cellsOf 79=1:=by kernel_rfl
theorem cTab:Tryz.prog.cellsOf 157=5:=by kernel_rfl
theorem var_heap {P:Program} {w:World} {n:String} {g:Nat} {cs:Array Value} (hg:P.globalNamed n=some g) (h:w.var? P n=some cs):∃e f,w.heap[g]? = some (.cells cs e f):=by
 simp only [World.var?,hg,Option.bind_some] at h
 split at h
 ·rename_i c e f he
  cases h
  exact ⟨_,_,he⟩
 ·cases h
theorem qbL {cs:Array Value} (h:cs.toList.length=5):∃a b c d e,cs=#[a,b,c,d,e]:=by
 obtain ⟨l⟩:=cs
 match l,h with
 | [a,b,c,d,e],_=>exact ⟨a,b,c,d,e,rfl⟩
set_option maxRecDepth 100000 in
theorem of_laid {W:World} (h:laidMetH Tryz.prog laidAll W):∃e1 f1,W.heap[0]? = some (.cells chkA e1 f1):=by
 have h1:=h.funcs (List.mem_cons_self ..)
 obtain ⟨g,t,cs,fuel,p,hg,ht,hv,hd⟩:=h1
 obtain rfl:=Option.some.inj (gChecks.symm.trans hg)
 obtain rfl:=Option.some.inj (tChecks.symm.trans ht)
 obtain ⟨e1,f1,hh1⟩:=var_heap hg hv
 obtain ⟨xs,m,rfl,hx,hl,hn,hel⟩:=DataW.trod_array Tryz.underlying157 hd
 rw [cTab] at hl
 obtain ⟨c0,c1,c2,c3,c4,rfl⟩:=qbL hl
 have k0:=hel 0 (by decide)
 have k1:=hel 1 (by decide)
 have k2:=hel 2 (by decide)
 have k3:=hel 3 (by decide)
 have k4:=hel 4 (by decide)
 rw [cFn] at k0 k1 k2 k3 k4
 match xs,hn,hx,k0,k1,k2,k3,k4 with
 | [x0,x1,x2,x3,x4],_,hx,k0,k1,k2,k3,k4 =>
   have hx':(DataW.agg [.held [40,98,97,117,100,111,116,47,114,111,117,116,101,46,100,97,121,41,46,116,111,119,110,115],.held [40,98,97,117,100,111,116,47,114,111,117,116,101,46,100,97,121,41,46,103,114,111,117,112,115],.held [40,98,97,117,100,111,116,47,114,111,117,116,101,46,100,97,121,41,46,111,114,100,101,114,115],.held [40,98,97,117,100,111,116,47,114,111,117,116,101,46,100,97,121,41,46,104,111,108,100,115],.held [40,98,97,117,100,111,116,47,114,111,117,116,101,46,100,97,121,41,46,99,97,108,108,115]]:DataW (List UInt8))=.agg [x0.1,x1.1,x2.1,x3.1,x4.1]:=congrArg Prod.fst hx
   simp only [DataW.agg.injEq,List.cons.injEq,and_true] at hx'
   obtain ⟨x0,q0⟩:=x0
   obtain ⟨x1,q1⟩:=x1
   obtain ⟨x2,q2⟩:=x2
   obtain ⟨x3,q3⟩:=x3
   obtain ⟨x4,q4⟩:=x4
   obtain ⟨rfl,rfl,rfl,rfl,rfl⟩:=hx'
   have e0':=func_of_trod (f0:=163) Tryz.underlying79 (by kernel_rfl) (show DataW.trod (funcToken Tryz.prog) Tryz.prog W 0 (fun _=>true) true m 79 [c0]=_ from k0)
   have e1':=func_of_trod (f0:=164) Tryz.underlying79 (by kernel_rfl) (show DataW.trod (funcToken Tryz.prog) Tryz.prog W 0 (fun _=>true) true m 79 [c1]=_ from k1)
   have e2':=func_of_trod (f0:=165) Tryz.underlying79 (by kernel_rfl) (show DataW.trod (funcToken Tryz.prog) Tryz.prog W 0 (fun _=>true) true m 79 [c2]=_ from k2)
   have e3':=func_of_trod (f0:=166) Tryz.underlying79 (by kernel_rfl) (show DataW.trod (funcToken Tryz.prog) Tryz.prog W 0 (fun _=>true) true m 79 [c3]=_ from k3)
   have e4':=func_of_trod (f0:=161) Tryz.underlying79 (by kernel_rfl) (show DataW.trod (funcToken Tryz.prog) Tryz.prog W 0 (fun _=>true) true m 79 [c4]=_ from k4)
   subst e0' e1' e2' e3' e4'
   exact ⟨e1,f1,hh1⟩
theorem u8_wf (x:Int):(Lit.int .u8 x).wf=true↔0≤x∧x < 256:=by
 have e:(Lit.int .u8 x).wf=(decide ((0:Int)≤x) && decide (x≤255)):=rfl
 rw [e,Bool.and_eq_true,decide_eq_true_iff,decide_eq_true_iff]
 omega
theorem kept_of {w w':World} (h1:w'.os=w.os) (h2:w'.output=w.output) (h3:∀k,k < w.heap.size→w'.heap[k]? = w.heap[k]?) (may:MemPlace→Prop):w.keptBut w' may:=by
 refine ⟨h1,h2,fun i hi=>?_⟩
 rw [h3 i hi]
 rcases w.heap[i]? with _ | o
 ·rfl
 ·cases o <;> simp
theorem qeK (Lk:Looks) {p:Pinned} {s:OpenSpec} {c:OpenClaim} (al:List (List PathCond)) (kinds:List LaidKind) (tests:Bool) (har:Bool×String) (lk:Bool)
 (hc:c.holds p s) (hal:∀D∈al,(c.withDomain D).holds p s) (hw:c.wfByText s=true) (hwal:∀D∈al,(c.withDomain D).wfByText s=true)
 (htie:c.laidByTextAt Lk p kinds tests)
 (hst:c.start=.entering) (hnb:c.noBlocks=false∧c.again=false) (hm:p.checked.prog.mainIs=some (har.1,har.2.toList)) (hn:(!har.1 && har.2.isEmpty && !lk)=false)
 (hl:∀f fn,p.checked.prog.funcNamed c.func=some f→p.checked.prog.funcs[f]? = some fn→lk=p.checked.prog.looks []∧∀(j:Nat) t,fn.params[j]? = some t→p.checked.prog.wantsStandIn t=false)
 (hg:true=c.goesBy p.checked.prog) :
 Claim7.holds p (.plain s) { stood:={ row:=c,standIns:=[],harness:=har,looks:=lk },kinds:=[],alts:=al,goes:=true,laidByText:=true,laidKinds:=kinds,laidTests:=tests,laidLooks:=Lk }:=by
 have h6:∀r:OpenClaim,Claim7.isSixth { stood:={ row:=r,standIns:=[],harness:=har,looks:=lk },kinds:=[] }=false:=fun r=>by simpa [Claim7.isSixth] using hn
 refine ⟨Claim7.tied_new_at Lk kinds tests (Claim7.new_of_sixth hc har lk hst hnb hm (h6 c) hl) hw,fun D hD=>?_,htie,(fun h=>by cases h),hg⟩
 exact Claim7.tied_new_at Lk kinds tests (Claim7.new_of_sixth (hal D hD) har lk hst hnb hm (h6 _) hl) (hwal D hD)
set_option maxRecDepth 100000 in
theorem qav:∀t e,t < Tryz.prog.types.size→Tryz.prog.underlying t=some (.slice e)→0 < Tryz.prog.cellsOf e:=slices_full_of Tryz.prog (by kernel_rfl)
set_option maxRecDepth 100000 in
theorem kids_all:Kids Tryz.prog (· < Tryz.prog.types.size):=kids_rows (by kernel_rfl) (by kernel_rfl)
def qaC {H:Type} (enc:TypeId×Value→H) (fn:Func) (W:World) (args:Array Value) (ds:List (DataW H)):Prop :=
 ∃p r b0,args.size=fn.params.size∧DataW.TrodAll enc Tryz.prog W 0 (fun _=>true) true fn.params.toList args.toList ds p∧∀(j:Nat) (t:TypeId) v,fn.params[j]? = some t→args[j]? = some v→Value.okWide Tryz.prog W r b0 t v
def qaE (f:FuncId) (W:World) (args:Array Value):Prop :=
 ∃X:Nat→Prop,(∀b,X b→∃c e f,W.heap[b]? = some (.cells c e f))∧(∀(C:FuncId→Prop) (R:Nat→Nat→Prop),(∀b,X b→R b b)→AR C R args args) ∧
  ∀w,Globs w→(∀b o v,X b→W.cell? ⟨b,o,none⟩=some v→PlainX X v→w.cell? ⟨b,o,none⟩=some v)→Calls qj f args w fun e w'=>e=.returned (.bool true)
set_option maxRecDepth 100000 in
theorem law_at {f:FuncId} {fn:Func} {s:ChangeSpec} (os:Os) (started:os.Started) (H:Type) (enc:TypeId×Value→H) (hfn:Tryz.prog.funcs[f]? = some fn) (hres:fn.resultTypes=#[4]) (hvars:s.vars=[])
 (hspec:∀ds:List (DataW H),ds.length=fn.params.size→s.fn H ds={ results:=[.lit (.bool true)],args:=ds }) (hpar:∀t∈fn.params.toList,t < Tryz.prog.types.size) (hf:YP f=true) (hne:f≠70)
 (hC:∀W args ds,qaC enc fn W args ds→qaE f W args)
 (witness:∃(w:World) (tape:Tape) (i:Input),w.os=os∧(w.forCall tape i).Shaped Tryz.checked.prog∧i.vars=[]∧Input.okWide Tryz.checked.prog (w.forCall tape i) .any w.heap.size f i ∧
   ((s.pre enc Tryz.checked.prog fn [] false (w.forCall tape i).memory i.args∧laidMetH Tryz.checked.prog laidAll (w.forCall tape i).memory)∧sizedMet enc Tryz.checked.prog fn (OpenSpec.ofChange s) false (w.forCall tape i).memory i.args)∧({}:Assume).holds Tryz.checked.prog (lone (Frame.enter Tryz.checked.prog f i.args .normal) [] (w.forCall tape i))) :
 ReturnsInLeavingWide {} Tryz.checked os f .any (fun w args=>(s.pre enc Tryz.prog fn [] false w args∧laidMetH Tryz.prog laidAll w)∧sizedMet enc Tryz.prog fn (OpenSpec.ofChange s) false w args) (s.post enc Tryz.prog fn false true false false):=by
 refine returnsInLeavingWide_of_good ownK started witness ?_
 intro w tape i _ _ _ hok hpre hholds
 obtain ⟨_,_,_,fn',hfn',_,_,_,hsz,hval⟩:=hok
 have e:fn'=fn:=Option.some.inj (hfn'.symm.trans hfn)
 subst e
 obtain ⟨⟨⟨ds,gs,before,hw,_⟩,hL⟩,_⟩:=hpre
 have hw':=DataW.Whole.of_heap (w':=w.forCall tape i) (by rfl) hw
 have hL':=of_laid (laidMetH.of_heap (w':=w.forCall tape i) (by rfl) hL)
 have hval':∃b0,∀(j:Nat) (t:TypeId) v,fn'.params[j]? = some t→i.args[j]? = some v→Value.okWide Tryz.prog (w.forCall tape i) .any b0 t v:=⟨_,hval⟩
 clear hval hL hw hholds witness
 revert hL' hval' hw'
 generalize w.forCall tape i=W
 intro hw' hL' hval'
 obtain ⟨e1,f1,hc⟩:=hL'
 obtain ⟨b0,hval'⟩:=hval'
 have hwhole:=hw'
 rw [hvars] at hw'
 obtain ⟨p,q,hA,hV,hpq,_,_⟩:=hw'
 obtain ⟨hgs,rfl⟩:=trodVars_none hV
 subst hgs
 obtain ⟨X,hX,hargs,hcalls⟩:=hC W i.args ds ⟨p,_,b0,hsz,hA,hval'⟩
 have hng:Tryz.prog.globals.size≤W.heap.size:=by
  have h1:Tryz.prog.globals.size=1:=by kernel_rfl
  have h2:=(Array.getElem?_eq_some_iff.1 hc).1
  omega
 have hlen:ds.length=fn'.params.size:=by
  have:=(trodAll_length hA).2
  simpa using this
 obtain ⟨N,last,o,w',t',r1,r2,r3,r4⟩:=qcq hf hne hX hargs hng hc hcalls
 refine ⟨N,last,o,w',t',r1,r2,r3,r4.mono fun v hp=>ChangeSpec.post_blind ?_⟩
 obtain ⟨⟨_,rfl⟩,h1,h2,h3,h4,_⟩:=hp
 refine ⟨ds,[],_,[],p,[],hwhole,?_,?_,?_,kept_of h3 h4 h1 _,fun h=>by cases h⟩
 ·rw [List.append_nil,hspec _ hlen,hres]
  exact trodAll_mk1 (shut_bool Tryz.underlying4 _)
 ·rw [List.append_nil,hspec _ hlen]
  exact ZJ kids_all qav h1 hpar hA
 ·rw [List.append_nil,hspec _ hlen,hvars]
  rfl
set_option maxRecDepth 100000 in
theorem door_met (os:Os) (args:Array Value):laidMetH Tryz.prog laidAll ((World.doorLaid Tryz.prog 19 os).forCall (fun _ _=>0) ⟨#[],args,[]⟩).memory :=
 laidMetH_of_parts3 (fuel:=8) (laidMet_of_run' 8 (by kernel_rfl) (by kernel_rfl)) (by kernel_rfl) (by kernel_rfl)
end Go.Proofs.YtjkenojgabamiaaGreatDoor
end
namespace Go.Proofs.Tryz
open Go Go.Load Go.RowKit
theorem zM {n lo hi:Int}:btw n lo hi=true↔lo≤n∧n≤hi:=by unfold btw;simp
theorem zo (a b c:Int) (w:World):Calls qj 72 #[.int .i64 a,.int .i64 b,.int .i64 c] w fun e w'=>e=.returned (.bool (btw a b c))∧w=w':=by
 by_cases h1:b≤a
 ·go_enter (sf 72 f72),ntmps72
  go_wp2
  go_ret
  exact ⟨by simp [btw,h1],rfl⟩
 ·go_enter (sf 72 f72),ntmps72
  go_wp2
  go_ret
  exact ⟨by simp [btw];omega,rfl⟩
theorem xA (a:Int) (w:World):Calls qj 47 #[.int .i64 a] w fun e w'=>e=.returned (.bool (btw a 0 99))∧w=w':=by
 go_enter (sf 47 f47),ntmps47
 go_wp2_with (go_at_call 72;(with_reducible refine (zo _ _ _ _).mono ?_);rintro e w1 ⟨rfl,rfl⟩)
 go_ret
 exact ⟨rfl,rfl⟩
def qU (n many:Int):Int:=if btw n 0 (many - 1)=true then 0 else 6
theorem Qk (n many:Int) (w:World) (h1:0≤many) (h2:many≤1000):Calls qj 35 #[.int .i64 n,.int .i64 many] w fun e w'=>e=.returned (.int .i64 (qU n many))∧w=w':=by
 have hw:=zo n 0 (many - 1)
 unfold qU
 generalize btw n 0 (many - 1)=r at *
 cases r
 all_goals
  go_enter (sf 35 f35),ntmps35
  go_wp2_with (go_at_call 72;(with_reducible refine (hw _).mono ?_);rintro e w1 ⟨rfl,rfl⟩)
  go_ret
  exact ⟨rfl,rfl⟩
theorem yF (x0 x1 x2 x3 x4 x5:Value) (w:World):Calls qj 55 #[.agg #[x0,x1,x2,x3,x4,x5]] w fun e w'=>e=.returned (.int .i64 0)∧Below w.heap.size w w':=by
 go_enter (sf 55 f55),ntmps55
 go_wp2
 go_ret
 exact ⟨rfl,by go_grown⟩
def zJ (n:Nat) (one two:Int):Int:=if (btw one 0 (n - 1) && btw two 0 (n - 1))=false then 6 else if one=two then 8 else 0
theorem Xk (ta:Option Addr) (n tc:Nat) (hn:n≤1000) (x1 x2 x3 x4 x5:Value) (one two:Int) (w:World) :
 Calls qj 167 #[.agg #[.slice ta n tc,x1,x2,x3,x4,x5],.int .i64 one,.int .i64 two] w fun e w'=>e=.returned (.int .i64 (zJ n one two))∧Below w.heap.size w w':=by
 have h1:=zo one 0 ((n:Int) - 1)
 have h2:=zo two 0 ((n:Int) - 1)
 unfold zJ
 generalize btw one 0 ((n:Int) - 1)=r1 at *
 generalize btw two 0 ((n:Int) - 1)=r2 at *
 cases r1 <;> cases r2
 all_goals
  go_enter (sf 167 f167),ntmps167
  go_wp2_with (first | (go_at_call 72;(with_reducible refine (h1 _).mono ?_);rintro e w1 ⟨rfl,rfl⟩) | (go_at_call 72;(with_reducible refine (h2 _).mono ?_);rintro e w1 ⟨rfl,rfl⟩))
 all_goals
  go_ret
  exact ⟨by simp_all,by go_grown⟩
def qh {α:Type} (w:World) (k:Nat) (enc:α→List Value) (a:Option Addr) (l:List α):Prop :=
 1≤l.length→∃b o,a=some ⟨b,o,none⟩∧∀(i:Nat) (x:α),l[i]? = some x→∀(j:Nat) (v:Value),(enc x)[j]? = some v→w.cell? ⟨b,o+i * k+j,none⟩=some v
theorem qh.keep {α:Type} {w w1:World} {k:Nat} {enc:α→List Value} {a:Option Addr} {l:List α} (h:qh w k enc a l) (hB:Below w.heap.size w w1):qh w1 k enc a l:=fun hl=>by
 obtain ⟨b,o,e,h⟩:=h hl
 exact ⟨b,o,e,fun i x hx j v hv=>qb _ hB (h i x hx j v hv)⟩
theorem qh.take {α:Type} {w:World} {k:Nat} {enc:α→List Value} {a:Option Addr} {l:List α} (h:qh w k enc a l) (n:Nat):qh w k enc a (l.take n):=fun hl=>by
 obtain ⟨b,o,e,h⟩:=h (by rw [List.length_take] at hl;omega)
 refine ⟨b,o,e,fun i x hx=>h i x ?_⟩
 rw [List.getElem?_take] at hx
 split at hx
 ·exact hx
 ·cases hx
def encS (s:ByteArray):List Value:=[.string s]
def encI (n:Int):List Value:=[.int .i64 n]
theorem any_take_succ {α:Type} {l:List α} {k:Nat} {x:α} (p:α→Bool) (h:l[k]? = some x) (hn:(l.take k).any p=false):(l.take (k+1)).any p=p x:=by
 obtain ⟨hk,rfl⟩:=List.getElem?_eq_some_iff.1 h
 rw [List.take_succ_eq_append_getElem hk,List.any_append,hn]
 simp
theorem YI {α:Type} {l:List α} {k:Nat} {x:α} (p:α→Bool) (h:l[k]? = some x) (hp:p x=true):l.any p=true:=List.any_eq_true.2 ⟨x,List.mem_of_getElem? h,hp⟩
set_option maxHeartbeats 1000000 in
theorem XY (s:ByteArray) (l:List ByteArray) (a:Option Addr) (c:Nat) (hlen:l.length≤1000) (w:World) (hQ:qh w 1 encS a l) :
 Calls qj 174 #[.slice a l.length c,.string s] w fun e w'=>(∃n:Int,e=.returned (.int .i64 n)∧((0≤n)↔(l.any fun x=>s.toList == x.toList)=true)∧n≤1000)∧w=w':=by
 go_enter (sf 174 f174),ntmps174
 go_wp2
 go_loopw [8] (fun i wr=>∃k:Nat,i=.int .i64 k∧k≤l.length∧wr=w∧Hid ((l.take k).any (fun x=>s.toList == x.toList)=false)) (fun i _=>l.length - (intOf i).toNat)
 case atStart=>exact ⟨0,rfl,Nat.zero_le _,rfl,Lib.hid (by simp)⟩
 case round =>
  obtain ⟨k,rfl,hk,rfl,HN⟩:=hrel
  by_cases hlt:k < l.length
  ·obtain ⟨b,o,rfl,hP⟩:=hQ (by omega)
   obtain ⟨x,hx⟩:∃x,l[k]? = some x:=⟨l[k],by simp [hlt]⟩
   have c0:=hP k x hx 0 _ rfl
   simp only [Nat.mul_one,Nat.add_zero] at c0
   have HX:=Lib.hid hx
   clear hP hx
   obtain ⟨r,hr⟩:∃r,(s.toList == x.toList)=r:=⟨_,rfl⟩
   have HR:=Lib.hid hr
   cases r with
   | true =>
     go_wp2
     go_ret
     exact ⟨⟨k,rfl,⟨fun _=>YI _ HX.out HR.out,fun _=>Int.natCast_nonneg k⟩,by omega⟩,rfl⟩
   | false =>
     go_wp2
     go_roundw
     case rel=>exact ⟨k+1,rfl,by omega,trivial,Lib.hid (by rw [any_take_succ _ HX.out HN.out];exact HR.out)⟩
     case measure=>simp [intOf];omega
  ·obtain rfl:k=l.length:=by omega
   have hany:=HN.out
   rw [List.take_length] at hany
   have HA:=Lib.hid hany
   clear hany
   go_wp2
   go_ret
   refine ⟨⟨-1,rfl,⟨fun h=>absurd h (by decide),fun h=>?_⟩,by omega⟩,rfl⟩
   rw [HA.out] at h;cases h
theorem ZT (s:ByteArray) (l:List ByteArray) (a:Option Addr) (c:Nat) (hlen:l.length≤1000) (w:World) (hQ:qh w 1 encS a l) :
 Calls qj 169 #[.slice a l.length c,.string s] w fun e w'=>e=.returned (.bool (l.any fun x=>s.toList == x.toList))∧w=w':=by
 have hI:=XY s l a c hlen w hQ
 clear hQ
 obtain ⟨r,hr⟩:∃r,(l.any fun x=>s.toList == x.toList)=r:=⟨_,rfl⟩
 simp only [hr] at hI ⊢
 go_enter (sf 169 f169),ntmps169
 go_wp2_with (go_at_call 174;(with_reducible refine hI.mono ?_);rintro e w1 ⟨⟨n,rfl,hn,hn2⟩,rfl⟩)
 go_ret
 refine ⟨?_,rfl⟩
 cases r <;> simp at hn <;> simp <;> omega
def Xe (i:Nat) (c:UInt8):Bool:=!btw c.toNat 97 122 && !(decide (0 < i) && btw c.toNat 48 57)
def Yw (f:Nat→UInt8→Bool):Nat→List UInt8→Bool
 | _,[]=>false
 | i,c :: l=>f i c || Yw f (i+1) l
theorem qbz (f:Nat→UInt8→Bool) {l:List UInt8} {k:Nat} {c:UInt8} (h:l[k]? = some c):Yw f k (l.drop k)=(f k c || Yw f (k+1) (l.drop (k+1))):=by
 obtain ⟨hk,rfl⟩:=List.getElem?_eq_some_iff.1 h
 rw [List.drop_eq_getElem_cons hk]
 rfl
def Zt (s:ByteArray):Bool:=(1≤s.size && s.size≤9) && !Yw Xe 0 s.data.toList
theorem JK (k:Nat) (n:Nat) (x:UInt8) (hn:x.toNat=n) {r:Bool} (hr:Xe k x=r) :
 (97≤(n:Int)∧(n:Int)≤122∧r=false)∨(¬ 97≤(n:Int)∧k=0∧r=true)∨(¬ 97≤(n:Int)∧(0:Int) < k∧48≤(n:Int)∧(n:Int)≤57∧r=false)∨(¬ 97≤(n:Int)∧(0:Int) < k∧¬ 48≤(n:Int)∧r=true)∨(¬ 97≤(n:Int)∧(0:Int) < k∧48≤(n:Int)∧¬ (n:Int)≤57∧r=true) ∨
   (97≤(n:Int)∧¬ (n:Int)≤122∧k=0∧r=true)∨(97≤(n:Int)∧¬ (n:Int)≤122∧(0:Int) < k∧48≤(n:Int)∧¬ (n:Int)≤57∧r=true):=by
 subst hr
 unfold Xe btw
 rw [hn]
 by_cases a:97≤(n:Int) <;> by_cases b:(n:Int)≤122 <;> by_cases c:0 < k <;> by_cases d:48≤(n:Int) <;> by_cases e:(n:Int)≤57 <;> simp [a,b,c,d,e] <;> omega
theorem conv_any (s:ByteArray) (w:World):∃cap W1,(convert 9 204 (.string s)).run qj w=.ok (.slice (some ⟨w.heap.size,0,none⟩) s.size cap) W1∧Below w.heap.size w W1∧∀(i:Nat) (x:UInt8),s.data.toList[i]? = some x→W1.cell? ⟨w.heap.size,i,none⟩=some (.int .u8 x.toNat) :=
 ⟨_,_,Lib.run_convert_string_bytes w _ _ 5 s ((qy _).trans Tryz.underlying9) ((qy _).trans Tryz.underlying204) ((qy _).trans Tryz.underlying5),Joins.below_bytesWorld _ w _ s (Nat.le_refl _),fun i x hx=>by
   have hi:i < s.size:=by have:=(List.getElem?_eq_some_iff.1 hx).1;simpa using this
   rw [Lib.bytesWorld_cell w _ s i hi,List.getD_eq_getElem?_getD,hx];rfl⟩
set_option maxHeartbeats 2000000 in
set_option maxRecDepth 100000 in
theorem qbS (s:ByteArray) (hs:s.size≤100) (w:World):Calls qj 168 #[.string s] w fun e w'=>e=.returned (.bool (Zt s))∧Below w.heap.size w w':=by
 obtain ⟨R,hR⟩:∃R,Zt s=R:=⟨_,rfl⟩
 rw [hR]
 unfold Zt at hR
 by_cases h1:1≤s.size∧s.size≤9
 ·simp only [h1,decide_true,Bool.and_self,Bool.true_and] at hR
  have HR:=Lib.hid hR
  clear hR
  obtain ⟨cap,W1,hconv,hB1,hBy⟩:=conv_any s w
  have HBy:=Lib.hid hBy
  clear hBy
  have hsz:=hB1.size
  go_enter (sf 168 f168),ntmps168
  go_wp2
  go_loopw [16] (fun i wr=>∃k:Nat,i=.int .i64 k∧k≤s.size∧wr=W1∧Hid ((!Yw Xe k (s.data.toList.drop k))=R)) (fun i _=>s.size - (intOf i).toNat)
  case atStart=>exact ⟨0,rfl,Nat.zero_le _,rfl,HR⟩
  case round =>
   obtain ⟨k,rfl,hk,rfl,HE⟩:=hrel
   by_cases hlt:k < s.size
   ·obtain ⟨x,hx⟩:∃x,s.data.toList[k]? = some x:=⟨s.data.toList[k]'(by simpa using hlt),by simp⟩
    have c0:=HBy.out k x hx
    have hA:=HE.out
    rw [qbz _ hx] at hA
    have hx1:(x.toNat:Int)≤255:=by have:=x.toNat_lt;omega
    have hx0:(0:Int)≤x.toNat:=Int.natCast_nonneg _
    obtain ⟨r,hr⟩:∃r,Xe k x=r:=⟨_,rfl⟩
    rw [hr] at hA
    have HA:=Lib.hid hA
    clear hA hx
    have hc:=JK k _ x rfl hr
    clear hr
    generalize (x.toNat:Int)=n at *
    rcases hc with ⟨g1,g2,rfl⟩ | ⟨g1,rfl,rfl⟩ | ⟨g1,g2,g3,g4,rfl⟩ | ⟨g1,g2,g3,rfl⟩ | ⟨g1,g2,g3,g4,rfl⟩ | ⟨g1,g2,rfl,rfl⟩ | ⟨g1,g2,g3,g4,g5,rfl⟩
    ·go_wp2
     go_roundw
     case rel=>exact ⟨k+1,rfl,by omega,(by first | rfl | trivial),Lib.hid (by simpa using HA.out)⟩
     case measure=>simp [intOf];omega
    ·go_wp2
     go_ret
     exact ⟨by have e2:=HA.out;simp at e2;rw [e2];rfl,hB1⟩
    ·go_wp2
     go_roundw
     case rel=>exact ⟨k+1,rfl,by omega,(by first | rfl | trivial),Lib.hid (by simpa using HA.out)⟩
     case measure=>simp [intOf];omega
    ·go_wp2
     go_ret
     exact ⟨by have e2:=HA.out;simp at e2;rw [e2];rfl,hB1⟩
    ·go_wp2
     go_ret
     exact ⟨by have e2:=HA.out;simp at e2;rw [e2];rfl,hB1⟩
    ·go_wp2
     go_ret
     exact ⟨by have e2:=HA.out;simp at e2;rw [e2];rfl,hB1⟩
    ·go_wp2
     go_ret
     exact ⟨by have e2:=HA.out;simp at e2;rw [e2];rfl,hB1⟩
   ·obtain rfl:k=s.size:=by omega
    have hA:=HE.out
    rw [List.drop_eq_nil_of_le (by simp)] at hA
    have HA:=Lib.hid hA
    clear hA
    go_wp2
    go_ret
    exact ⟨by rw [← HA.out];rfl,hB1⟩
 ·have hN:R=false:=by
   rw [← hR]
   by_cases a:1≤s.size
   ·have b:¬ s.size≤9:=fun b=>h1 ⟨a,b⟩
    simp [b]
   ·simp [a]
  rw [hN]
  go_enter (sf 168 f168),ntmps168
  go_wp2
  all_goals
   go_ret
   exact ⟨rfl,by go_grown⟩
structure GrpM where
 one:Int
 two:Int
 lo:Int
 hi:Int
structure WayM where
 l:List Int
 a:Option Addr
 c:Nat
structure OrdM where
 fr:Int
 toT:Int
 ws:List WayM
 a:Option Addr
 c:Nat
structure HldM where
 g:Int
 m:Int
 b:Int
 e:Int
structure CalM where
 fr:Int
 toT:Int
 co:Int
 cl:Int
 se:Int
structure DayM where
 ts:List ByteArray
 ta:Option Addr
 tc:Nat
 gs:List GrpM
 ga:Option Addr
 gc:Nat
 os:List OrdM
 oa:Option Addr
 oc:Nat
 hs:List HldM
 ha:Option Addr
 hc:Nat
 cs:List CalM
 ca:Option Addr
 cc:Nat
def XR (g:GrpM):List Value:=[.int .i64 g.one,.int .i64 g.two,.int .i64 g.lo,.int .i64 g.hi]
def xY (x:WayM):List Value:=[.slice x.a x.l.length x.c]
def Zo (o:OrdM):List Value:=[.int .i64 o.fr,.int .i64 o.toT,.slice o.a o.ws.length o.c]
def YQ (h:HldM):List Value:=[.int .i64 h.g,.int .i64 h.m,.int .i64 h.b,.int .i64 h.e]
def Qc (c:CalM):List Value:=[.int .i64 c.fr,.int .i64 c.toT,.int .i64 c.co,.int .i64 c.cl,.int .i64 c.se]
def dv (D:DayM):Value:=.agg #[.slice D.ta D.ts.length D.tc,.slice D.ga D.gs.length D.gc,.slice D.oa D.os.length D.oc,.slice D.ha D.hs.length D.hc,.slice D.ca D.cs.length D.cc]
def dm (D:DayM) (m:Option Nat):Value:=.agg #[.slice D.ta D.ts.length D.tc,.slice D.ga D.gs.length D.gc,.slice D.oa D.os.length D.oc,.slice D.ha D.hs.length D.hc,.slice D.ca D.cs.length D.cc,.map m]
structure DayAt (w:World) (D:DayM):Prop where
 ts:qh w 1 encS D.ta D.ts
 gs:qh w 4 XR D.ga D.gs
 os:qh w 3 Zo D.oa D.os
 ws:∀o∈D.os,qh w 1 xY o.a o.ws
 ls:∀o∈D.os,∀x∈o.ws,qh w 1 encI x.a x.l
 hs:qh w 4 YQ D.ha D.hs
 cs:qh w 5 Qc D.ca D.cs
theorem DayAt.keep {w w1:World} {D:DayM} (h:DayAt w D) (hB:Below w.heap.size w w1):DayAt w1 D :=
 ⟨h.ts.keep hB,h.gs.keep hB,h.os.keep hB,fun o ho=>(h.ws o ho).keep hB,fun o ho x hx=>(h.ls o ho x hx).keep hB,h.hs.keep hB,h.cs.keep hB⟩
structure DaySm (D:DayM):Prop where
 ts:D.ts.length≤20∧D.ts.length≤D.tc
 nm:∀s∈D.ts,s.size≤100
 gs:D.gs.length≤20∧D.gs.length≤D.gc
 os:D.os.length≤20∧D.os.length≤D.oc
 ws:∀o∈D.os,o.ws.length≤20∧o.ws.length≤o.c
 ls:∀o∈D.os,∀x∈o.ws,x.l.length≤20∧x.l.length≤x.c
 hs:D.hs.length≤20∧D.hs.length≤D.hc
 cs:D.cs.length≤20∧D.cs.length≤D.cc
def qY {α:Type} (f:Nat→α→Int):Nat→List α→Int
 | _,[]=>0
 | i,g :: l=>if f i g≠0 then f i g else qY f (i+1) l
theorem zB {α:Type} (f:Nat→α→Int) {l:List α} {k:Nat} {g:α} (h:l[k]? = some g):qY f k (l.drop k)=if f k g≠0 then f k g else qY f (k+1) (l.drop (k+1)):=by
 obtain ⟨hk,rfl⟩:=List.getElem?_eq_some_iff.1 h
 rw [List.drop_eq_getElem_cons hk]
 rfl
def qax (ts:List ByteArray) (i:Nat) (s:ByteArray):Int:=if Zt s=false then 4 else if ((ts.take i).any fun x=>s.toList == x.toList)=true then 5 else 0
def jN (D:DayM):Int:=if btw D.ts.length 2 5=false then 2 else qY (qax D.ts) 0 D.ts
set_option maxHeartbeats 2000000 in
set_option maxRecDepth 100000 in
theorem qeN (D:DayM) (m:Option Nat) (w:World) (h:DayAt w D) (hs:DaySm D):Calls qj 163 #[dm D m] w fun e w'=>e=.returned (.int .i64 (jN D))∧Below w.heap.size w w':=by
 have hts:=h.ts
 have hsm:=hs.ts
 have hnm:=hs.nm
 obtain ⟨R,hR⟩:∃R,jN D=R:=⟨_,rfl⟩
 rw [hR]
 unfold jN at hR
 unfold dm
 clear h hs
 obtain ⟨ts,ta,tc,gs,ga,gc,os,oa,oc,hs,ha,hc,cs,ca,cc⟩:=D
 simp only at *
 generalize Value.slice ga gs.length gc=x1
 generalize Value.slice oa os.length oc=x2
 generalize Value.slice ha hs.length hc=x3
 generalize Value.slice ca cs.length cc=x4
 have hwi:=zo ts.length 2 5
 obtain ⟨r,hr⟩:∃r,btw ts.length 2 5=r:=⟨_,rfl⟩
 rw [hr] at hwi hR
 cases r with
 | false =>
   simp at hR
   subst hR
   clear hts hnm
   go_enter (sf 163 f163),ntmps163
   go_wp2_with (go_at_call 72;(with_reducible refine (hwi _).mono ?_);rintro e w1 ⟨rfl,rfl⟩)
   go_ret
   exact ⟨rfl,by go_grown⟩
 | true =>
   have hlen:=zM.1 hr
   simp at hR
   have HR:=Lib.hid hR
   obtain ⟨b,o,rfl,hP⟩:=hts (by omega)
   have HP:=Lib.hid hP
   have HN:=Lib.hid hnm
   have HT:=Lib.hid hts
   clear hR hP hnm hr hts
   go_enter (sf 163 f163),ntmps163
   go_wp2_with (go_at_call 72;(with_reducible refine (hwi _).mono ?_);rintro e w1 ⟨rfl,rfl⟩)
   obtain ⟨W,hW⟩:∃W,w.alloc (Obj.cells #[.slice (some ⟨b,o,none⟩) ts.length tc,x1,x2,x3,x4,.map m] 74)=W:=⟨_,rfl⟩
   have k0:W.cell? ⟨w.heap.size,0,none⟩=some (.slice (some ⟨b,o,none⟩) ts.length tc):=by subst hW;go_cell
   have hBW:Below w.heap.size w W:=by subst hW;go_grown
   rw [hW]
   clear hW
   go_loopw [15] (fun i wr=>∃k:Nat,i=.int .i64 k∧k≤ts.length∧Below W.heap.size W wr∧Hid (qY (qax ts) k (ts.drop k)=R)) (fun i _=>ts.length - (intOf i).toNat)
   case atStart=>exact ⟨0,rfl,by omega,Below.refl _ _,HR⟩
   case round =>
    obtain ⟨k,rfl,hk,hBr,HE⟩:=hrel
    have k0:=qb _ hBr k0
    have hBw:=bcl hBW hBr
    by_cases hlt:k < ts.length
    ·have hkc:(k:Int)≤(tc:Int):=by omega
     obtain ⟨s,hx⟩:∃x,ts[k]? = some x:=⟨ts[k],by simp [hlt]⟩
     have c0:=qb _ hBw (HP.out k s hx 0 _ rfl)
     simp only [Nat.mul_one,Nat.add_zero] at c0
     have hnm:=fun W=>qbS s (HN.out s (List.mem_of_getElem? hx)) W
     have hco:=fun (W:World) (hB:Below w.heap.size w W)=>ZT s (ts.take k) (some ⟨b,o,none⟩) tc (by rw [List.length_take];omega) W ((HT.out.keep hB).take k)
     rw [List.length_take,Nat.min_eq_left hk] at hco
     have hA:=HE.out
     rw [zB _ hx] at hA
     obtain ⟨r1,h1⟩:∃r,Zt s=r:=⟨_,rfl⟩
     obtain ⟨r2,h2⟩:∃r,((ts.take k).any fun x=>s.toList == x.toList)=r:=⟨_,rfl⟩
     have ht:qax ts k s=if r1=false then 4 else if r2=true then 5 else 0:=by unfold qax;rw [h1,h2]
     rw [ht] at hA
     simp only [h1] at hnm
     simp only [h2] at hco
     clear ht h1 h2 hx
     have HA:=Lib.hid hA
     clear hA
     cases r1 with
     | false =>
       go_wp2_with (go_at_call 168;(with_reducible refine (hnm _).mono ?_);rintro e w1 ⟨rfl,hB1⟩;have k0:=qb _ hB1 k0)
       go_ret
       exact ⟨by have e:=HA.out;simp at e;rw [← e];rfl,bcl hBw hB1⟩
     | true =>
       cases r2 with
       | true =>
         go_wp2_with (first | (go_at_call 168;(with_reducible refine (hnm _).mono ?_);rintro e w1 ⟨rfl,hB1⟩;have k0:=qb _ hB1 k0) | (go_at_call 169;refine (hco _ (bcl hBw hB1)).mono ?_;rintro e w2 ⟨rfl,rfl⟩))
         go_ret
         exact ⟨by have e:=HA.out;simp at e;rw [← e];rfl,bcl hBw hB1⟩
       | false =>
         go_wp2_with (first | (go_at_call 168;(with_reducible refine (hnm _).mono ?_);rintro e w1 ⟨rfl,hB1⟩;have k0:=qb _ hB1 k0) | (go_at_call 169;refine (hco _ (bcl hBw hB1)).mono ?_;rintro e w2 ⟨rfl,rfl⟩))
         go_roundw
         case rel=>exact ⟨k+1,rfl,by omega,bcl hBr hB1,Lib.hid (by simpa using HA.out)⟩
         case measure=>simp [intOf];omega
    ·obtain rfl:k=ts.length:=by omega
     have hA:=HE.out
     rw [List.drop_eq_nil_of_le (Nat.le_refl _)] at hA
     have HA:=Lib.hid hA
     clear hA
     go_wp2
     go_ret
     exact ⟨by have e:=HA.out;simp [qY] at e;rw [← e];rfl,hBw⟩
end Go.Proofs.Tryz
section
namespace Go.Proofs.YtjkenojgabamiaaGreatDoor
open Go Go.Conc Go.Sim Go.Load Go.RowKit Go.ChangeShapes Go.WideShapes Go.ChangeAt
open Go.Proofs.Tryz
theorem addr_add (a:Addr) (i:Nat) (h:a.spot=none):a.add i=⟨a.block,a.off+i,none⟩:=by
 obtain ⟨b,o,s⟩:=a
 obtain rfl:s=none:=h
 unfold Addr.add
 split
 ·rename_i e;subst e;rfl
 ·rfl
def AddrZ (W:World) (a:Option Addr) (l c:Nat):Prop:=∀x,a=some x→(l=0∧c=0)∨∃cs e f,W.heap[x.block]? = some (.cells cs e f)
theorem Qe {W:World} {a:Addr} {v:Value} (h:W.cell? a=some v):a.spot=none∧∃cs e f,W.heap[a.block]? = some (.cells cs e f):=by
 unfold World.cell? at h
 split at h
 ·rename_i c e f hb
  split at h
  ·cases h
  ·rename_i hs
   exact ⟨by simpa using hs,_,_,_,hb⟩
 ·cases h
theorem add_zero' (a:Addr):a.add 0=a:=by unfold Addr.add;rfl
structure RowRd {α:Type} (W:World) (k:Nat) (encf:α→List Value) (a:Option Addr) (l:List α) (c:Nat):Prop where
 row:qh W k encf a l
 cap:l.length≤c∧c≤maxLen
 ad:AddrZ W a l.length c
 nil:a=none→c=0
structure OrdRd (W:World) (o:OrdM):Prop where
 row:RowRd W 1 xY o.a o.ws o.c
 ways:∀x∈o.ws,RowRd W 1 encI x.a x.l x.c
structure DayRd (W:World) (D:DayM):Prop where
 ts:RowRd W 1 encS D.ta D.ts D.tc
 nm:∀s∈D.ts,s.size≤maxLen
 gs:RowRd W 4 XR D.ga D.gs D.gc
 os:RowRd W 3 Zo D.oa D.os D.oc
 or:∀o∈D.os,OrdRd W o
 hs:RowRd W 4 YQ D.ha D.hs D.hc
 cs:RowRd W 5 Qc D.ca D.cs D.cc
section
variable {H:Type} {enc:TypeId×Value→H} {W:World}
noncomputable abbrev TR (enc:TypeId×Value→H) (W:World):=DataW.trod enc Tryz.prog W 0 (fun _=>true) true
set_option maxRecDepth 100000 in
theorem yX {α:Type} {ty e:TypeId} {k:Nat} {encf:α→List Value} {Q:α→Prop} (m0:α) (hu:Tryz.prog.underlying ty=some (.slice e)) (hk:Tryz.prog.cellsOf e=k) (hk0:0 < k) (hlen:∀m,(encf m).length=k)
 (rd:∀(fuel:Nat) (cs:List Value) (x:DataW H×List MemPlace),TR enc W fuel e cs=some x→∃m,cs=encf m∧Q m) {fuel:Nat} {cs:List Value} {x:DataW H×List MemPlace} (h:TR enc W fuel ty cs=some x) :
 ∃(l:List α) (a:Option Addr) (c:Nat),cs=[.slice a l.length c]∧RowRd W k encf a l c∧∀m∈l,Q m:=by
 rcases Go.Deep.open_slice hu h with ⟨hc,_⟩ | ⟨a',len,cap,m,kk,D,P,hc,_,hlc,hcm,hm,_,hx⟩
 ·subst hc
  exact ⟨[],none,0,rfl,⟨fun h=>(by simp at h),⟨Nat.le_refl _,Nat.zero_le _⟩,fun x e=>(by cases e),fun _=>rfl⟩,fun g hg=>(by cases hg)⟩
 ·subst hc
  have hm':m=cap:=by simpa using hm
  rw [hk] at hx
  have one:∀i,∃g:α,i < cap→(∀j v,(encf g)[j]? = some v→W.cell? (a'.add (i * k+j))=some v)∧Q g:=fun i=>by
   by_cases hi:i < cap
   ·obtain ⟨cs,q1,q2⟩:=hx i (by omega)
    obtain ⟨g,rfl,hg⟩:=rd _ _ _ q2
    obtain ⟨_,_,q3⟩:=World.cells?_some q1
    refine ⟨g,fun _=>⟨fun j v hv=>?_,hg⟩⟩
    have hj:j < (encf g).length:=(List.getElem?_eq_some_iff.1 hv).1
    have:=q3 j (by rw [← hlen g];exact hj)
    rw [Go.Deep.add_add] at this
    rw [this]
    exact hv
   ·exact ⟨m0,fun h=>absurd h hi⟩
  obtain ⟨g,hg⟩:=Classical.axiomOfChoice one
  have hb:1≤cap→a'.spot=none∧∃cs e f,W.heap[a'.block]? = some (.cells cs e f):=fun h1=>by
   have q0:=(hg 0 (by omega)).1 0 ((encf (g 0))[0]'(by rw [hlen];exact hk0)) (List.getElem?_eq_getElem _)
   rw [Nat.zero_mul,Nat.add_zero,add_zero'] at q0
   exact Qe q0
  refine ⟨(List.range len).map g,some a',cap,by simp,⟨fun h1=>?_,⟨by simpa using hlc,hcm⟩,fun x e=>?_,fun e=>(by cases e)⟩,fun y hy=>?_⟩
  ·have h1':1≤len:=by simpa using h1
   have hs:=(hb (by omega)).1
   refine ⟨a'.block,a'.off,?_,fun i x hi=>?_⟩
   ·obtain ⟨b,o,s⟩:=a'
    obtain rfl:s=none:=hs
    rfl
   ·rw [List.getElem?_map,Option.map_eq_some_iff] at hi
    obtain ⟨j,hj,rfl⟩:=hi
    have hjn:j < len:=by
     have:=(List.getElem?_eq_some_iff.1 hj)
     obtain ⟨h1,h2⟩:=this
     simp at h1 h2
     omega
    have hji:j=i:=by
     have:=(List.getElem?_eq_some_iff.1 hj)
     obtain ⟨h1,h2⟩:=this
     simp at h2
     omega
    subst hji
    intro u v hv
    have:=(hg j (by omega)).1 u v hv
    rw [addr_add _ _ hs] at this
    rw [Nat.add_assoc]
    exact this
  ·cases e
   by_cases h1:1≤cap
   ·exact .inr (hb h1).2
   ·exact .inl ⟨by simp;omega,by omega⟩
  ·obtain ⟨j,hj,rfl⟩:=List.mem_map.1 hy
   have hj:=List.mem_range.1 hj
   exact (hg j (by omega)).2
set_option maxRecDepth 100000 in
theorem read_int (fuel:Nat) (cs:List Value) (x:DataW H×List MemPlace) (h:TR enc W fuel 3 cs=some x):∃m:Int,cs=encI m∧True:=by
 obtain ⟨n,a0,_⟩:=DataW.trod_int Tryz.underlying3 h
 exact ⟨n,a0,trivial⟩
set_option maxRecDepth 100000 in
theorem read_str (fuel:Nat) (cs:List Value) (x:DataW H×List MemPlace) (h:TR enc W fuel 9 cs=some x):∃m:ByteArray,cs=encS m∧m.size≤maxLen:=by
 obtain ⟨s,a0,_,hs⟩:=DataW.trod_string Tryz.underlying9 h
 exact ⟨s,a0,hs⟩
set_option maxRecDepth 100000 in
theorem read_hld (fuel:Nat) (cs:List Value) (x:DataW H×List MemPlace) (h:TR enc W fuel 56 cs=some x):∃m:HldM,cs=YQ m∧True:=by
 obtain ⟨ys,m0,rfl,hy,hl0,hn0,hel0⟩:=DataW.trod_struct Tryz.underlying56 h
 rw [show Tryz.prog.cellsOf 56=4 by kernel_rfl] at hl0
 match cs,hl0 with
 | [z0,z1,z2,z3],_ =>
   have j0:TR enc W m0 3 (([z0,z1,z2,z3].drop 0).take (Tryz.prog.cellsOf 3))=ys[0]? := hel0 0 _ rfl
   rw [show Tryz.prog.cellsOf 3=1 by kernel_rfl] at j0
   have j1:TR enc W m0 3 (([z0,z1,z2,z3].drop 1).take (Tryz.prog.cellsOf 3))=ys[1]? := hel0 1 _ rfl
   rw [show Tryz.prog.cellsOf 3=1 by kernel_rfl] at j1
   have j2:TR enc W m0 3 (([z0,z1,z2,z3].drop 2).take (Tryz.prog.cellsOf 3))=ys[2]? := hel0 2 _ rfl
   rw [show Tryz.prog.cellsOf 3=1 by kernel_rfl] at j2
   have j3:TR enc W m0 3 (([z0,z1,z2,z3].drop 3).take (Tryz.prog.cellsOf 3))=ys[3]? := hel0 3 _ rfl
   rw [show Tryz.prog.cellsOf 3=1 by kernel_rfl] at j3
   match ys,hn0 with
   | [y0,y1,y2,y3],_ =>
     obtain ⟨n0,a0,_⟩:=DataW.trod_int Tryz.underlying3 (show TR enc W m0 3 [z0]=some y0 from j0)
     obtain ⟨n1,a1,_⟩:=DataW.trod_int Tryz.underlying3 (show TR enc W m0 3 [z1]=some y1 from j1)
     obtain ⟨n2,a2,_⟩:=DataW.trod_int Tryz.underlying3 (show TR enc W m0 3 [z2]=some y2 from j2)
     obtain ⟨n3,a3,_⟩:=DataW.trod_int Tryz.underlying3 (show TR enc W m0 3 [z3]=some y3 from j3)
     simp only [List.cons.injEq,and_true] at a0 a1 a2 a3
     exact ⟨⟨n0,n1,n2,n3⟩,by rw [a0,a1,a2,a3];rfl,trivial⟩
set_option maxRecDepth 100000 in
theorem read_cal (fuel:Nat) (cs:List Value) (x:DataW H×List MemPlace) (h:TR enc W fuel 52 cs=some x):∃m:CalM,cs=Qc m∧True:=by
 obtain ⟨ys,m0,rfl,hy,hl0,hn0,hel0⟩:=DataW.trod_struct Tryz.underlying52 h
 rw [show Tryz.prog.cellsOf 52=5 by kernel_rfl] at hl0
 match cs,hl0 with
 | [z0,z1,z2,z3,z4],_ =>
   have j0:TR enc W m0 3 (([z0,z1,z2,z3,z4].drop 0).take (Tryz.prog.cellsOf 3))=ys[0]? := hel0 0 _ rfl
   rw [show Tryz.prog.cellsOf 3=1 by kernel_rfl] at j0
   have j1:TR enc W m0 3 (([z0,z1,z2,z3,z4].drop 1).take (Tryz.prog.cellsOf 3))=ys[1]? := hel0 1 _ rfl
   rw [show Tryz.prog.cellsOf 3=1 by kernel_rfl] at j1
   have j2:TR enc W m0 3 (([z0,z1,z2,z3,z4].drop 2).take (Tryz.prog.cellsOf 3))=ys[2]? := hel0 2 _ rfl
   rw [show Tryz.prog.cellsOf 3=1 by kernel_rfl] at j2
   have j3:TR enc W m0 3 (([z0,z1,z2,z3,z4].drop 3).take (Tryz.prog.cellsOf 3))=ys[3]? := hel0 3 _ rfl
   rw [show Tryz.prog.cellsOf 3=1 by kernel_rfl] at j3
   have j4:TR enc W m0 3 (([z0,z1,z2,z3,z4].drop 4).take (Tryz.prog.cellsOf 3))=ys[4]? := hel0 4 _ rfl
   rw [show Tryz.prog.cellsOf 3=1 by kernel_rfl] at j4
   match ys,hn0 with
   | [y0,y1,y2,y3,y4],_ =>
     obtain ⟨n0,a0,_⟩:=DataW.trod_int Tryz.underlying3 (show TR enc W m0 3 [z0]=some y0 from j0)
     obtain ⟨n1,a1,_⟩:=DataW.trod_int Tryz.underlying3 (show TR enc W m0 3 [z1]=some y1 from j1)
     obtain ⟨n2,a2,_⟩:=DataW.trod_int Tryz.underlying3 (show TR enc W m0 3 [z2]=some y2 from j2)
     obtain ⟨n3,a3,_⟩:=DataW.trod_int Tryz.underlying3 (show TR enc W m0 3 [z3]=some y3 from j3)
     obtain ⟨n4,a4,_⟩:=DataW.trod_int Tryz.underlying3 (show TR enc W m0 3 [z4]=some y4 from j4)
     simp only [List.cons.injEq,and_true] at a0 a1 a2 a3 a4
     exact ⟨⟨n0,n1,n2,n3,n4⟩,by rw [a0,a1,a2,a3,a4];rfl,trivial⟩
set_option maxRecDepth 100000 in
theorem read_grp (fuel:Nat) (cs:List Value) (x:DataW H×List MemPlace) (h:TR enc W fuel 116 cs=some x):∃m:GrpM,cs=XR m∧True:=by
 obtain ⟨ys,m0,rfl,hy,hl0,hn0,hel0⟩:=DataW.trod_struct Tryz.underlying116 h
 rw [show Tryz.prog.cellsOf 116=4 by kernel_rfl] at hl0
 match cs,hl0 with
 | [z0,z1,z2,z3],_ =>
   have j0:TR enc W m0 3 (([z0,z1,z2,z3].drop 0).take (Tryz.prog.cellsOf 3))=ys[0]? := hel0 0 _ rfl
   rw [show Tryz.prog.cellsOf 3=1 by kernel_rfl] at j0
   have j1:TR enc W m0 3 (([z0,z1,z2,z3].drop 1).take (Tryz.prog.cellsOf 3))=ys[1]? := hel0 1 _ rfl
   rw [show Tryz.prog.cellsOf 3=1 by kernel_rfl] at j1
   have j2:TR enc W m0 40 (([z0,z1,z2,z3].drop 2).take (Tryz.prog.cellsOf 40))=ys[2]? := hel0 2 _ rfl
   rw [show Tryz.prog.cellsOf 40=2 by kernel_rfl] at j2
   match ys,hn0 with
   | [y0,y1,y2],_ =>
     obtain ⟨n0,a0,_⟩:=DataW.trod_int Tryz.underlying3 (show TR enc W _ 3 [z0]=some y0 from j0)
     obtain ⟨n1,a1,_⟩:=DataW.trod_int Tryz.underlying3 (show TR enc W m0 3 [z1]=some y1 from j1)
     obtain ⟨us,m1,rfl,_,_,hn1,hel1⟩:=DataW.trod_struct Tryz.underlying40 (show TR enc W m0 40 [z2,z3]=some y2 from j2)
     have k0:TR enc W m1 3 (([z2,z3].drop 0).take (Tryz.prog.cellsOf 3))=us[0]? := hel1 0 _ rfl
     have k1:TR enc W m1 3 (([z2,z3].drop 1).take (Tryz.prog.cellsOf 3))=us[1]? := hel1 1 _ rfl
     rw [cInt] at k0 k1
     match us,hn1 with
     | [u0,u1],_ =>
       obtain ⟨n2,a2,_⟩:=DataW.trod_int Tryz.underlying3 (show TR enc W m1 3 [z2]=some u0 from k0)
       obtain ⟨n3,a3,_⟩:=DataW.trod_int Tryz.underlying3 (show TR enc W m1 3 [z3]=some u1 from k1)
       simp only [List.cons.injEq,and_true] at a0 a1 a2 a3
       exact ⟨⟨n0,n1,n2,n3⟩,by rw [a0,a1,a2,a3];rfl,trivial⟩
set_option maxRecDepth 100000 in
theorem read_way (fuel:Nat) (cs:List Value) (x:DataW H×List MemPlace) (h:TR enc W fuel 31 cs=some x):∃m:WayM,cs=xY m∧RowRd W 1 encI m.a m.l m.c:=by
 obtain ⟨l,a,c,rfl,hr,_⟩:=yX (k:=1) (encf:=encI) (0:Int) Tryz.underlying31 (by kernel_rfl) (by decide) (fun _=>rfl) read_int h
 exact ⟨⟨l,a,c⟩,rfl,hr⟩
set_option maxRecDepth 100000 in
theorem read_ord (fuel:Nat) (cs:List Value) (x:DataW H×List MemPlace) (h:TR enc W fuel 64 cs=some x):∃m:OrdM,cs=Zo m∧OrdRd W m:=by
 obtain ⟨ys,m0,rfl,hy,hl0,hn0,hel0⟩:=DataW.trod_struct Tryz.underlying64 h
 rw [show Tryz.prog.cellsOf 64=3 by kernel_rfl] at hl0
 match cs,hl0 with
 | [z0,z1,z2],_ =>
   have j0:TR enc W m0 3 (([z0,z1,z2].drop 0).take (Tryz.prog.cellsOf 3))=ys[0]? := hel0 0 _ rfl
   rw [show Tryz.prog.cellsOf 3=1 by kernel_rfl] at j0
   have j1:TR enc W m0 3 (([z0,z1,z2].drop 1).take (Tryz.prog.cellsOf 3))=ys[1]? := hel0 1 _ rfl
   rw [show Tryz.prog.cellsOf 3=1 by kernel_rfl] at j1
   have j2:TR enc W m0 49 (([z0,z1,z2].drop 2).take (Tryz.prog.cellsOf 49))=ys[2]? := hel0 2 _ rfl
   rw [show Tryz.prog.cellsOf 49=1 by kernel_rfl] at j2
   match ys,hn0 with
   | [y0,y1,y2],_ =>
     obtain ⟨n0,a0,_⟩:=DataW.trod_int Tryz.underlying3 (show TR enc W m0 3 [z0]=some y0 from j0)
     obtain ⟨n1,a1,_⟩:=DataW.trod_int Tryz.underlying3 (show TR enc W m0 3 [z1]=some y1 from j1)
     obtain ⟨l,a,c,a2,hr,hw⟩:=yX (k:=1) (encf:=xY) (⟨[],none,0⟩:WayM) Tryz.underlying49 (by kernel_rfl) (by decide) (fun _=>rfl) read_way (show TR enc W _ 49 [z2]=some y2 from j2)
     simp only [List.cons.injEq,and_true] at a0 a1 a2
     exact ⟨⟨n0,n1,l,a,c⟩,by rw [a0,a1,a2];rfl,hr,hw⟩
set_option maxRecDepth 100000 in
theorem read_day {r:Reach} {b0:Nat} {v:Value} {d:DataW H} {ps:List MemPlace} (hv:Value.okWide Tryz.prog W r b0 28 v) (h:DataW.Trod enc Tryz.prog W 0 (fun _=>true) true 28 v d ps):∃D:DayM,v=dv D∧DayRd W D:=by
 obtain ⟨cs,rfl,hcs⟩:=okWide_struct Tryz.underlying28 hv
 obtain ⟨fuel,h⟩:=h
 obtain ⟨ys,m0,rfl,hy,hl0,hn0,hel0⟩:=DataW.trod_struct Tryz.underlying28 h
 have c5:Tryz.prog.cellsOf 28=5:=by kernel_rfl
 rw [c5] at hcs
 obtain ⟨l⟩:=cs
 match l,hcs with
 | [z0,z1,z2,z3,z4],_ =>
   have j0:TR enc W m0 22 (([z0,z1,z2,z3,z4].drop 0).take (Tryz.prog.cellsOf 22))=ys[0]? := hel0 0 _ rfl
   rw [show Tryz.prog.cellsOf 22=1 by kernel_rfl] at j0
   have j1:TR enc W m0 23 (([z0,z1,z2,z3,z4].drop 1).take (Tryz.prog.cellsOf 23))=ys[1]? := hel0 1 _ rfl
   rw [show Tryz.prog.cellsOf 23=1 by kernel_rfl] at j1
   have j2:TR enc W m0 24 (([z0,z1,z2,z3,z4].drop 2).take (Tryz.prog.cellsOf 24))=ys[2]? := hel0 2 _ rfl
   rw [show Tryz.prog.cellsOf 24=1 by kernel_rfl] at j2
   have j3:TR enc W m0 25 (([z0,z1,z2,z3,z4].drop 3).take (Tryz.prog.cellsOf 25))=ys[3]? := hel0 3 _ rfl
   rw [show Tryz.prog.cellsOf 25=1 by kernel_rfl] at j3
   have j4:TR enc W m0 26 (([z0,z1,z2,z3,z4].drop 4).take (Tryz.prog.cellsOf 26))=ys[4]? := hel0 4 _ rfl
   rw [show Tryz.prog.cellsOf 26=1 by kernel_rfl] at j4
   match ys,hn0 with
   | [y0,y1,y2,y3,y4],_ =>
     obtain ⟨l0,a0,c0,e0,hr0,hq0⟩:=yX (k:=1) (encf:=encS) (⟨#[]⟩:ByteArray) Tryz.underlying22 (by kernel_rfl) (by decide) (fun _=>rfl) read_str (show TR enc W _ 22 [z0]=some y0 from j0)
     obtain ⟨l1,a1,c1,e1,hr1,hq1⟩:=yX (k:=4) (encf:=XR) (⟨0,0,0,0⟩:GrpM) Tryz.underlying23 (by kernel_rfl) (by decide) (fun _=>rfl) read_grp (show TR enc W _ 23 [z1]=some y1 from j1)
     obtain ⟨l2,a2,c2,e2,hr2,hq2⟩:=yX (k:=3) (encf:=Zo) (⟨0,0,[],none,0⟩:OrdM) Tryz.underlying24 (by kernel_rfl) (by decide) (fun _=>rfl) read_ord (show TR enc W _ 24 [z2]=some y2 from j2)
     obtain ⟨l3,a3,c3,e3,hr3,hq3⟩:=yX (k:=4) (encf:=YQ) (⟨0,0,0,0⟩:HldM) Tryz.underlying25 (by kernel_rfl) (by decide) (fun _=>rfl) read_hld (show TR enc W _ 25 [z3]=some y3 from j3)
     obtain ⟨l4,a4,c4,e4,hr4,hq4⟩:=yX (k:=5) (encf:=Qc) (⟨0,0,0,0,0⟩:CalM) Tryz.underlying26 (by kernel_rfl) (by decide) (fun _=>rfl) read_cal (show TR enc W _ 26 [z4]=some y4 from j4)
     simp only [List.cons.injEq,and_true] at e0 e1 e2 e3 e4
     subst e0 e1 e2 e3 e4
     exact ⟨⟨l0,a0,c0,l1,a1,c1,l2,a2,c2,l3,a3,c3,l4,a4,c4⟩,rfl,hr0,hq0,hr1,hr2,hq2,hr3,hr4⟩
end
def DyX (W:World) (D:DayM) (b:Nat):Prop:=(∃cs e f,W.heap[b]? = some (.cells cs e f))∧(∃a:Addr,a.block=b∧(D.ta=some a∨D.ga=some a∨D.oa=some a∨D.ha=some a∨D.ca=some a∨(∃o∈D.os,o.a=some a∨∃x∈o.ws,x.a=some a)))
theorem JC {W:World} {α:Type} {k c:Nat} {encf:α→List Value} {a:Option Addr} {l:List α} (h:RowRd W k encf a l c) {X:Nat→Prop} {C:FuncId→Prop} {R:Nat→Nat→Prop} (hX:∀ad,a=some ad→(∃cs e f,W.heap[ad.block]? = some (.cells cs e f))→X ad.block) (hR:∀b,X b→R b b):VR C R (.slice a l.length c) (.slice a l.length c):=by
 cases a with
 | none=>exact .snil _ _
 | some a =>
   rcases h.ad a rfl with ⟨h1,h2⟩ | h1
   ·rw [h1,h2];exact .zcap a
   ·exact .slice _ _ ⟨hR _ (hX a rfl h1),rfl,rfl⟩
theorem px_row {W:World} {α:Type} {k c:Nat} {encf:α→List Value} {a:Option Addr} {l:List α} (h:RowRd W k encf a l c) {X:Nat→Prop} (hX:∀ad,a=some ad→(∃cs e f,W.heap[ad.block]? = some (.cells cs e f))→X ad.block):PlainX X (.slice a l.length c):=by
 cases a with
 | none=>exact .snil _ _
 | some a =>
   rcases h.ad a rfl with ⟨h1,h2⟩ | h1
   ·rw [h1,h2];exact .zcap a
   ·exact .slice a _ _ (hX a rfl h1)
theorem vr_day {W:World} {D:DayM} (h:DayRd W D) {X:Nat→Prop} {C:FuncId→Prop} {R:Nat→Nat→Prop} (hX:∀b,DyX W D b→X b) (hR:∀b,X b→R b b):VR C R (dv D) (dv D):=by
 refine .agg rfl fun i x x' hx hx'=>?_
 rw [hx] at hx'
 cases hx'
 have hi:=(Array.getElem?_eq_some_iff.1 hx).1
 rcases (show i=0∨i=1∨i=2∨i=3∨i=4 by simp at hi;omega) with rfl | rfl | rfl | rfl | rfl
 ·cases hx;exact JC h.ts (fun a e hb=>hX _ ⟨hb,a,rfl,.inl e⟩) hR
 ·cases hx;exact JC h.gs (fun a e hb=>hX _ ⟨hb,a,rfl,.inr (.inl e)⟩) hR
 ·cases hx;exact JC h.os (fun a e hb=>hX _ ⟨hb,a,rfl,.inr (.inr (.inl e))⟩) hR
 ·cases hx;exact JC h.hs (fun a e hb=>hX _ ⟨hb,a,rfl,.inr (.inr (.inr (.inl e)))⟩) hR
 ·cases hx;exact JC h.cs (fun a e hb=>hX _ ⟨hb,a,rfl,.inr (.inr (.inr (.inr (.inl e))))⟩) hR
theorem row_in {W w:World} {α:Type} {k c:Nat} {encf:α→List Value} {a:Option Addr} {l:List α} (h:RowRd W k encf a l c) (hlen:∀m,0 < (encf m).length) {X:Nat→Prop} (hX:∀ad,a=some ad→(∃cs e f,W.heap[ad.block]? = some (.cells cs e f))→X ad.block)
 (hP:∀m∈l,∀v∈encf m,PlainX X v) (hk:∀b o v,X b→W.cell? ⟨b,o,none⟩=some v→PlainX X v→w.cell? ⟨b,o,none⟩=some v):qh w k encf a l:=fun hl=>by
 obtain ⟨b,o,e,hc⟩:=h.row hl
 refine ⟨b,o,e,fun i x hx j v hv=>?_⟩
 have h1:=hc i x hx j v hv
 exact hk _ _ _ (hX _ e (Qe h1).2) h1 (hP x (List.mem_of_getElem? hx) v (List.mem_of_getElem? hv))
theorem day_in {W w:World} {D:DayM} (h:DayRd W D) {X:Nat→Prop} (hX:∀b,DyX W D b→X b) (hk:∀b o v,X b→W.cell? ⟨b,o,none⟩=some v→PlainX X v→w.cell? ⟨b,o,none⟩=some v):DayAt w D:=by
 have pI:∀(m:Int),∀v∈encI m,PlainX X v:=fun m v hv=>by simp only [encI,List.mem_singleton] at hv;subst hv;exact .int _ _
 refine ⟨row_in h.ts (fun _=>Nat.zero_lt_succ _) (fun a e hb=>hX _ ⟨hb,a,rfl,.inl e⟩) ?_ hk,row_in h.gs (fun _=>Nat.zero_lt_succ _) (fun a e hb=>hX _ ⟨hb,a,rfl,.inr (.inl e)⟩) ?_ hk,row_in h.os (fun _=>Nat.zero_lt_succ _) (fun a e hb=>hX _ ⟨hb,a,rfl,.inr (.inr (.inl e))⟩) ?_ hk,?_,?_,row_in h.hs (fun _=>Nat.zero_lt_succ _) (fun a e hb=>hX _ ⟨hb,a,rfl,.inr (.inr (.inr (.inl e)))⟩) ?_ hk,row_in h.cs (fun _=>Nat.zero_lt_succ _) (fun a e hb=>hX _ ⟨hb,a,rfl,.inr (.inr (.inr (.inr (.inl e))))⟩) ?_ hk⟩
 ·intro m _ v hv;simp only [encS,List.mem_singleton] at hv;subst hv;exact .str _
 ·intro m _ v hv;simp only [XR,List.mem_cons,List.not_mem_nil,or_false] at hv;rcases hv with rfl | rfl | rfl | rfl <;> exact .int _ _
 ·intro m hm v hv
  simp only [Zo,List.mem_cons,List.not_mem_nil,or_false] at hv
  rcases hv with rfl | rfl | rfl
  ·exact .int _ _
  ·exact .int _ _
  ·exact px_row (h.or m hm).row (fun a e hb=>hX _ ⟨hb,a,rfl,.inr (.inr (.inr (.inr (.inr ⟨m,hm,.inl e⟩))))⟩)
 ·intro o ho
  refine row_in (h.or o ho).row (fun _=>Nat.zero_lt_succ _) (fun a e hb=>hX _ ⟨hb,a,rfl,.inr (.inr (.inr (.inr (.inr ⟨o,ho,.inl e⟩))))⟩) ?_ hk
  intro m hm v hv
  simp only [xY,List.mem_singleton] at hv
  subst hv
  exact px_row ((h.or o ho).ways m hm) (fun a e hb=>hX _ ⟨hb,a,rfl,.inr (.inr (.inr (.inr (.inr ⟨o,ho,.inr ⟨m,hm,e⟩⟩))))⟩)
 ·intro o ho x hx
  exact row_in ((h.or o ho).ways x hx) (fun _=>Nat.zero_lt_succ _) (fun a e hb=>hX _ ⟨hb,a,rfl,.inr (.inr (.inr (.inr (.inr ⟨o,ho,.inr ⟨x,hx,e⟩⟩))))⟩) (fun m _=>pI m) hk
 ·intro m _ v hv;simp only [YQ,List.mem_cons,List.not_mem_nil,or_false] at hv;rcases hv with rfl | rfl | rfl | rfl <;> exact .int _ _
 ·intro m _ v hv;simp only [Qc,List.mem_cons,List.not_mem_nil,or_false] at hv;rcases hv with rfl | rfl | rfl | rfl | rfl <;> exact .int _ _
end Go.Proofs.YtjkenojgabamiaaGreatDoor
end
namespace Go.Proofs.Tryz
open Go Go.Load Go.RowKit
structure B6 (w:World) (b:Nat) (x0 x1 x2 x3 x4 x5:Value):Prop where
 c0:w.cell? ⟨b,0,none⟩=some x0
 c1:w.cell? ⟨b,1,none⟩=some x1
 c2:w.cell? ⟨b,2,none⟩=some x2
 c3:w.cell? ⟨b,3,none⟩=some x3
 c4:w.cell? ⟨b,4,none⟩=some x4
 c5:w.cell? ⟨b,5,none⟩=some x5
theorem B6.keep {w w1:World} {b:Nat} {x0 x1 x2 x3 x4 x5:Value} (h:B6 w b x0 x1 x2 x3 x4 x5) (hB:Below w.heap.size w w1):B6 w1 b x0 x1 x2 x3 x4 x5 :=
 ⟨qb _ hB h.c0,qb _ hB h.c1,qb _ hB h.c2,qb _ hB h.c3,qb _ hB h.c4,qb _ hB h.c5⟩
theorem B6.new (w:World) (x0 x1 x2 x3 x4 x5:Value) (t:TypeId):B6 (w.alloc (Obj.cells #[x0,x1,x2,x3,x4,x5] t)) w.heap.size x0 x1 x2 x3 x4 x5 :=
 ⟨by go_cell,by go_cell,by go_cell,by go_cell,by go_cell,by go_cell⟩
def grpA (n:Nat) (g:GrpM):Int:=if zJ n g.one g.two≠0 then zJ n g.one g.two else if ¬ 0≤g.lo∨¬ g.lo≤g.hi∨¬ g.hi≤6∨¬ g.hi - g.lo < 3 then 1 else 0
def zS (D:DayM):Int:=if 4 < D.gs.length then 2 else qY (fun _ g=>grpA D.ts.length g) 0 D.gs
theorem qbP (n:Nat) (g:GrpM) {r:Int} (h:grpA n g=r):(zJ n g.one g.two≠0∧r=zJ n g.one g.two) ∨
 (zJ n g.one g.two=0∧g.lo < 0∧r=1)∨(zJ n g.one g.two=0∧¬ g.lo < 0∧g.hi < g.lo∧r=1)∨(zJ n g.one g.two=0∧¬ g.lo < 0∧¬ g.hi < g.lo∧6 < g.hi∧r=1) ∨
 (zJ n g.one g.two=0∧¬ g.lo < 0∧¬ g.hi < g.lo∧¬ 6 < g.hi∧3≤g.hi - g.lo∧r=1)∨(zJ n g.one g.two=0∧¬ g.lo < 0∧¬ g.hi < g.lo∧¬ 6 < g.hi∧¬ 3≤g.hi - g.lo∧r=0):=by
 subst h
 unfold grpA
 by_cases a:zJ n g.one g.two=0 <;> by_cases b:g.lo < 0 <;> by_cases c:g.hi < g.lo <;> by_cases d:6 < g.hi <;> by_cases e:3≤g.hi - g.lo <;> simp [a,b,c,d,e] <;> omega
set_option maxHeartbeats 2000000 in
set_option maxRecDepth 100000 in
theorem qbO (D:DayM) (m:Option Nat) (w:World) (h:DayAt w D) (hs:DaySm D):Calls qj 164 #[dm D m] w fun e w'=>e=.returned (.int .i64 (zS D))∧Below w.heap.size w w':=by
 have hgs:=h.gs
 have hsm:=hs.gs
 have htl:=hs.ts.1
 obtain ⟨R,hR⟩:∃R,zS D=R:=⟨_,rfl⟩
 rw [hR]
 unfold zS at hR
 unfold dm
 clear h hs
 obtain ⟨ts,ta,tc,gs,ga,gc,os,oa,oc,hs,ha,hc,cs,ca,cc⟩:=D
 simp only at *
 generalize Value.slice oa os.length oc=x2
 generalize Value.slice ha hs.length hc=x3
 generalize Value.slice ca cs.length cc=x4
 have hen:=fun one two=>Xk ta ts.length tc (by omega) (.slice ga gs.length gc) x2 x3 x4 (.map m) one two
 generalize hN:ts.length=N at *
 clear hN
 by_cases hlen:4 < gs.length
 ·simp [hlen] at hR
  subst hR
  clear hgs
  go_enter (sf 164 f164),ntmps164
  go_wp2
  go_ret
  exact ⟨rfl,by go_grown⟩
 ·simp [hlen] at hR
  have HR:=Lib.hid hR
  have HT:=Lib.hid hgs
  clear hR hgs
  go_enter (sf 164 f164),ntmps164
  obtain ⟨W,hW⟩:∃W,w.alloc (Obj.cells #[.slice ta N tc,.slice ga gs.length gc,x2,x3,x4,.map m] 74)=W:=⟨_,rfl⟩
  have h6:B6 W w.heap.size (.slice ta N tc) (.slice ga gs.length gc) x2 x3 x4 (.map m):=by subst hW;exact B6.new ..
  have hBW:Below w.heap.size w W:=by subst hW;go_grown
  have k1:=h6.c1
  go_wp2
  try rw [hW]
  clear hW k1
  go_loopw [16] (fun i wr=>∃k:Nat,i=.int .i64 k∧k≤gs.length∧Below W.heap.size W wr∧Hid (qY (fun _ g=>grpA N g) k (gs.drop k)=R)) (fun i _=>gs.length - (intOf i).toNat)
  case atStart=>exact ⟨0,rfl,by omega,Below.refl _ _,HR⟩
  case round =>
   obtain ⟨k,rfl,hk,hBr,HE⟩:=hrel
   obtain ⟨k0,k1,k2,k3,k4,k5⟩:=h6.keep hBr
   have hBw:=bcl hBW hBr
   have hz:=lt_of_cell k0
   have hzW:=hBr.size
   simp only at hz
   by_cases hlt:k < gs.length
   ·obtain ⟨b,o,rfl,hP⟩:=HT.out (by omega)
    obtain ⟨g,hx⟩:∃x,gs[k]? = some x:=⟨gs[k],by simp [hlt]⟩
    have hkc:(k:Int)≤(gc:Int):=by omega
    have c0:=qb _ hBw (hP k g hx 0 _ rfl)
    have c1:=qb _ hBw (hP k g hx 1 _ rfl)
    have c2:=qb _ hBw (hP k g hx 2 _ rfl)
    have c3:=qb _ hBw (hP k g hx 3 _ rfl)
    simp only [Nat.add_zero] at c0
    have hA:=HE.out
    rw [zB _ hx] at hA
    clear hP hx
    obtain ⟨one,two,lo,hi⟩:=g
    have hen:=hen one two
    obtain ⟨r,hr⟩:∃r,grpA N ⟨one,two,lo,hi⟩=r:=⟨_,rfl⟩
    rw [hr] at hA
    have HA:=Lib.hid hA
    clear hA
    have hc:=qbP _ _ hr
    clear hr
    simp only at *
    generalize zJ N one two=E at *
    rcases hc with ⟨g1,rfl⟩ | ⟨rfl,g2,rfl⟩ | ⟨rfl,g2,g3,rfl⟩ | ⟨rfl,g2,g3,g4,rfl⟩ | ⟨rfl,g2,g3,g4,g5,rfl⟩ | ⟨rfl,g2,g3,g4,g5,rfl⟩
    ·have g2:(r != 0)=true:=by simpa using g1
     go_wp2_with (go_at_call 167;(with_reducible refine (hen _).mono ?_);rintro e w1 ⟨rfl,hB1⟩;have hB2:=Below.call (B:=w.heap.size) (w:=w) (by go_grown) hB1 (Nat.le_refl _);have hB3:=Below.call (B:=W.heap.size) (w:=W) (by go_grown) hB1 (Nat.le_refl _);obtain ⟨hc,hg⟩:=zH hB1;have hz1:=hB1.size;simp at hz1)
     go_ret
     exact ⟨by have e:=HA.out;simp [g1] at e;rw [← e];rfl,by go_grown⟩
    ·go_wp2_with (go_at_call 167;(with_reducible refine (hen _).mono ?_);rintro e w1 ⟨rfl,hB1⟩;have hB2:=Below.call (B:=w.heap.size) (w:=w) (by go_grown) hB1 (Nat.le_refl _);have hB3:=Below.call (B:=W.heap.size) (w:=W) (by go_grown) hB1 (Nat.le_refl _);obtain ⟨hc,hg⟩:=zH hB1;have hz1:=hB1.size;simp at hz1)
     go_ret
     exact ⟨by have e:=HA.out;simp at e;rw [← e];rfl,by go_grown⟩
    ·go_wp2_with (go_at_call 167;(with_reducible refine (hen _).mono ?_);rintro e w1 ⟨rfl,hB1⟩;have hB2:=Below.call (B:=w.heap.size) (w:=w) (by go_grown) hB1 (Nat.le_refl _);have hB3:=Below.call (B:=W.heap.size) (w:=W) (by go_grown) hB1 (Nat.le_refl _);obtain ⟨hc,hg⟩:=zH hB1;have hz1:=hB1.size;simp at hz1)
     go_ret
     exact ⟨by have e:=HA.out;simp at e;rw [← e];rfl,by go_grown⟩
    ·go_wp2_with (go_at_call 167;(with_reducible refine (hen _).mono ?_);rintro e w1 ⟨rfl,hB1⟩;have hB2:=Below.call (B:=w.heap.size) (w:=w) (by go_grown) hB1 (Nat.le_refl _);have hB3:=Below.call (B:=W.heap.size) (w:=W) (by go_grown) hB1 (Nat.le_refl _);obtain ⟨hc,hg⟩:=zH hB1;have hz1:=hB1.size;simp at hz1)
     go_ret
     exact ⟨by have e:=HA.out;simp at e;rw [← e];rfl,by go_grown⟩
    ·have hwr:wrap64 (hi - lo)=hi - lo:=(by unfold wrap64;omega)
     go_wp2_with (go_at_call 167;(with_reducible refine (hen _).mono ?_);rintro e w1 ⟨rfl,hB1⟩;have hB2:=Below.call (B:=w.heap.size) (w:=w) (by go_grown) hB1 (Nat.le_refl _);have hB3:=Below.call (B:=W.heap.size) (w:=W) (by go_grown) hB1 (Nat.le_refl _);obtain ⟨hc,hg⟩:=zH hB1;have hz1:=hB1.size;simp at hz1)
     go_ret
     exact ⟨by have e:=HA.out;simp at e;rw [← e];rfl,by go_grown⟩
    ·have hwr:wrap64 (hi - lo)=hi - lo:=(by unfold wrap64;omega)
     go_wp2_with (go_at_call 167;(with_reducible refine (hen _).mono ?_);rintro e w1 ⟨rfl,hB1⟩;have hB2:=Below.call (B:=w.heap.size) (w:=w) (by go_grown) hB1 (Nat.le_refl _);have hB3:=Below.call (B:=W.heap.size) (w:=W) (by go_grown) hB1 (Nat.le_refl _);obtain ⟨hc,hg⟩:=zH hB1;have hz1:=hB1.size;simp at hz1)
     go_roundw
     case rel=>exact ⟨k+1,rfl,by omega,(by first | exact hB3 | go_grown),Lib.hid (by simpa using HA.out)⟩
     case measure=>simp [intOf];omega
   ·obtain rfl:k=gs.length:=by omega
    have hA:=HE.out
    rw [List.drop_eq_nil_of_le (Nat.le_refl _)] at hA
    have HA:=Lib.hid hA
    clear hA
    go_wp2
    go_ret
    exact ⟨by have e:=HA.out;simp [qY] at e;rw [← e];rfl,hBw⟩
def hldA (n:Nat) (h:HldM):Int:=if btw h.g 0 (n - 1)=false then 6 else if (btw h.m 1 6 && btw h.b 0 99 && btw h.e 0 99)=false then 1 else if h.e≤h.b then 7 else 0
def xR (D:DayM):Int:=if 3 < D.hs.length then 2 else qY (fun _ h=>hldA D.gs.length h) 0 D.hs
set_option maxHeartbeats 2000000 in
set_option maxRecDepth 100000 in
theorem qds (D:DayM) (m:Option Nat) (w:World) (h:DayAt w D) (hs:DaySm D):Calls qj 166 #[dm D m] w fun e w'=>e=.returned (.int .i64 (xR D))∧Below w.heap.size w w':=by
 have hhs:=h.hs
 have hsm:=hs.hs
 have htl:=hs.gs.1
 obtain ⟨R,hR⟩:∃R,xR D=R:=⟨_,rfl⟩
 rw [hR]
 unfold xR at hR
 unfold dm
 clear h hs
 obtain ⟨ts,ta,tc,gs,ga,gc,os,oa,oc,hs,ha,hc,cs,ca,cc⟩:=D
 simp only at *
 generalize Value.slice ta ts.length tc=x2
 generalize Value.slice oa os.length oc=x3
 generalize Value.slice ca cs.length cc=x4
 generalize hN:gs.length=N at *
 clear hN
 by_cases hlen:3 < hs.length
 ·simp [hlen] at hR
  subst hR
  clear hhs
  go_enter (sf 166 f166),ntmps166
  go_wp2
  go_ret
  exact ⟨rfl,by go_grown⟩
 ·simp [hlen] at hR
  have HR:=Lib.hid hR
  have HT:=Lib.hid hhs
  clear hR hhs
  go_enter (sf 166 f166),ntmps166
  obtain ⟨W,hW⟩:∃W,w.alloc (Obj.cells #[x2,.slice ga N gc,x3,.slice ha hs.length hc,x4,.map m] 74)=W:=⟨_,rfl⟩
  have h6:B6 W w.heap.size x2 (.slice ga N gc) x3 (.slice ha hs.length hc) x4 (.map m):=by subst hW;exact B6.new ..
  have hBW:Below w.heap.size w W:=by subst hW;go_grown
  have k1:=h6.c3
  go_wp2
  try rw [hW]
  clear hW k1
  go_loopw [14] (fun i wr=>∃k:Nat,i=.int .i64 k∧k≤hs.length∧Below W.heap.size W wr∧Hid (qY (fun _ h=>hldA N h) k (hs.drop k)=R)) (fun i _=>hs.length - (intOf i).toNat)
  case atStart=>exact ⟨0,rfl,by omega,Below.refl _ _,HR⟩
  case round =>
   obtain ⟨k,rfl,hk,hBr,HE⟩:=hrel
   obtain ⟨k0,k1,k2,k3,k4,k5⟩:=h6.keep hBr
   have hBw:=bcl hBW hBr
   have hz:=lt_of_cell k0
   have hzW:=hBr.size
   simp only at hz
   by_cases hlt:k < hs.length
   ·obtain ⟨b,o,rfl,hP⟩:=HT.out (by omega)
    obtain ⟨h,hx⟩:∃x,hs[k]? = some x:=⟨hs[k],by simp [hlt]⟩
    have hkc:(k:Int)≤(hc:Int):=by omega
    have c0:=qb _ hBw (hP k h hx 0 _ rfl)
    have c1:=qb _ hBw (hP k h hx 1 _ rfl)
    have c2:=qb _ hBw (hP k h hx 2 _ rfl)
    have c3:=qb _ hBw (hP k h hx 3 _ rfl)
    simp only [Nat.add_zero] at c0
    have hA:=HE.out
    rw [zB _ hx] at hA
    clear hP hx
    obtain ⟨hg,hm,hb,he⟩:=h
    have hw1:=zo hg 0 ((N:Int) - 1)
    have hw2:=zo hm 1 6
    have hw3:=xA hb
    have hw4:=xA he
    rw [show hldA N ⟨hg,hm,hb,he⟩=(if btw hg 0 ((N:Int) - 1)=false then (6:Int) else if (btw hm 1 6 && btw hb 0 99 && btw he 0 99)=false then 1 else if he≤hb then 7 else 0) from rfl] at hA
    simp only at *
    generalize btw hg 0 ((N:Int) - 1)=r1 at *
    generalize btw hm 1 6=r2 at *
    generalize btw hb 0 99=r3 at *
    generalize btw he 0 99=r4 at *
    have HA:=Lib.hid hA
    clear hA
    cases r1
    ·go_wp2_with (first | (go_at_call 72;(with_reducible refine (hw1 _).mono ?_);rintro e w1 ⟨rfl,rfl⟩) | (go_at_call 72;(with_reducible refine (hw2 _).mono ?_);rintro e w1 ⟨rfl,rfl⟩) | (go_at_call 47;(with_reducible refine (hw3 _).mono ?_);rintro e w1 ⟨rfl,rfl⟩) | (go_at_call 47;(with_reducible refine (hw4 _).mono ?_);rintro e w1 ⟨rfl,rfl⟩))
     go_ret
     exact ⟨by have e:=HA.out;simp at e;rw [← e];rfl,by go_grown⟩
    cases r2
    ·go_wp2_with (first | (go_at_call 72;(with_reducible refine (hw1 _).mono ?_);rintro e w1 ⟨rfl,rfl⟩) | (go_at_call 72;(with_reducible refine (hw2 _).mono ?_);rintro e w1 ⟨rfl,rfl⟩) | (go_at_call 47;(with_reducible refine (hw3 _).mono ?_);rintro e w1 ⟨rfl,rfl⟩) | (go_at_call 47;(with_reducible refine (hw4 _).mono ?_);rintro e w1 ⟨rfl,rfl⟩))
     go_ret
     exact ⟨by have e:=HA.out;simp at e;rw [← e];rfl,by go_grown⟩
    cases r3
    ·go_wp2_with (first | (go_at_call 72;(with_reducible refine (hw1 _).mono ?_);rintro e w1 ⟨rfl,rfl⟩) | (go_at_call 72;(with_reducible refine (hw2 _).mono ?_);rintro e w1 ⟨rfl,rfl⟩) | (go_at_call 47;(with_reducible refine (hw3 _).mono ?_);rintro e w1 ⟨rfl,rfl⟩) | (go_at_call 47;(with_reducible refine (hw4 _).mono ?_);rintro e w1 ⟨rfl,rfl⟩))
     go_ret
     exact ⟨by have e:=HA.out;simp at e;rw [← e];rfl,by go_grown⟩
    cases r4
    ·go_wp2_with (first | (go_at_call 72;(with_reducible refine (hw1 _).mono ?_);rintro e w1 ⟨rfl,rfl⟩) | (go_at_call 72;(with_reducible refine (hw2 _).mono ?_);rintro e w1 ⟨rfl,rfl⟩) | (go_at_call 47;(with_reducible refine (hw3 _).mono ?_);rintro e w1 ⟨rfl,rfl⟩) | (go_at_call 47;(with_reducible refine (hw4 _).mono ?_);rintro e w1 ⟨rfl,rfl⟩))
     go_ret
     exact ⟨by have e:=HA.out;simp at e;rw [← e];rfl,by go_grown⟩
    by_cases hle:he≤hb
    ·go_wp2_with (first | (go_at_call 72;(with_reducible refine (hw1 _).mono ?_);rintro e w1 ⟨rfl,rfl⟩) | (go_at_call 72;(with_reducible refine (hw2 _).mono ?_);rintro e w1 ⟨rfl,rfl⟩) | (go_at_call 47;(with_reducible refine (hw3 _).mono ?_);rintro e w1 ⟨rfl,rfl⟩) | (go_at_call 47;(with_reducible refine (hw4 _).mono ?_);rintro e w1 ⟨rfl,rfl⟩))
     go_ret
     exact ⟨by have e:=HA.out;simp [hle] at e;rw [← e];rfl,by go_grown⟩
    ·go_wp2_with (first | (go_at_call 72;(with_reducible refine (hw1 _).mono ?_);rintro e w1 ⟨rfl,rfl⟩) | (go_at_call 72;(with_reducible refine (hw2 _).mono ?_);rintro e w1 ⟨rfl,rfl⟩) | (go_at_call 47;(with_reducible refine (hw3 _).mono ?_);rintro e w1 ⟨rfl,rfl⟩) | (go_at_call 47;(with_reducible refine (hw4 _).mono ?_);rintro e w1 ⟨rfl,rfl⟩))
     go_roundw
     case rel=>exact ⟨k+1,rfl,by omega,by go_grown,Lib.hid (by simpa [hle] using HA.out)⟩
     case measure=>simp [intOf];omega
   ·obtain rfl:k=hs.length:=by omega
    have hA:=HE.out
    rw [List.drop_eq_nil_of_le (Nat.le_refl _)] at hA
    have HA:=Lib.hid hA
    clear hA
    go_wp2
    go_ret
    exact ⟨by have e:=HA.out;simp [qY] at e;rw [← e];rfl,hBw⟩
theorem YF (a b c:Int) (w:World):Calls qj 59 #[.int .i64 a,.int .i64 b,.int .i64 c] w fun e w'=>e=.returned (.bool (btw a b c))∧w=w':=by
 by_cases h1:b≤a
 ·go_enter (sf 59 f59),ntmps59
  go_wp2
  go_ret
  exact ⟨by simp [btw,h1],rfl⟩
 ·go_enter (sf 59 f59),ntmps59
  go_wp2
  go_ret
  exact ⟨by simp [btw];omega,rfl⟩
theorem Qz (n m:Int) (h1:0≤m) (h2:m≤1000) (w:World):Calls qj 41 #[.int .i64 n,.int .i64 m] w fun e w'=>e=.returned (.bool (btw n 0 (m - 1)))∧w=w':=by
 have hw:=YF n 0 (m - 1)
 go_enter (sf 41 f41),ntmps41
 go_wp2_with (go_at_call 59;(with_reducible refine (hw _).mono ?_);rintro e w1 ⟨rfl,rfl⟩)
 go_ret
 exact ⟨rfl,rfl⟩
theorem Qt (a:Int) (w:World):Calls qj 52 #[.int .i64 a] w fun e w'=>e=.returned (.bool (btw a 0 99))∧w=w':=by
 go_enter (sf 52 f52),ntmps52
 go_wp2_with (go_at_call 59;(with_reducible refine (YF _ _ _ _).mono ?_);rintro e w1 ⟨rfl,rfl⟩)
 go_ret
 exact ⟨rfl,rfl⟩
def jV (lo hi a b:Int):Bool:=decide (lo≤hi) && decide (a≤lo) && decide (hi≤b)
set_option maxHeartbeats 1000000 in
theorem qbw (lo hi a b:Int) (w:World):Calls qj 98 #[.agg #[.int .i64 lo,.int .i64 hi],.int .i64 a,.int .i64 b] w fun e w'=>e=.returned (.bool (jV lo hi a b))∧Below w.heap.size w w':=by
 unfold jV
 by_cases h1:lo≤hi
 ·by_cases h2:a≤lo
  ·go_enter (sf 98 f98),ntmps98
   go_wp2
   go_ret
   exact ⟨by simp [h1,h2],by go_grown⟩
  ·go_enter (sf 98 f98),ntmps98
   go_wp2
   go_ret
   exact ⟨by simp;omega,by go_grown⟩
 ·go_enter (sf 98 f98),ntmps98
  go_wp2
  go_ret
  exact ⟨by simp;omega,by go_grown⟩
structure B5 (w:World) (b:Nat) (x0 x1 x2 x3 x4:Value):Prop where
 c0:w.cell? ⟨b,0,none⟩=some x0
 c1:w.cell? ⟨b,1,none⟩=some x1
 c2:w.cell? ⟨b,2,none⟩=some x2
 c3:w.cell? ⟨b,3,none⟩=some x3
 c4:w.cell? ⟨b,4,none⟩=some x4
theorem B5.keep {w w1:World} {b:Nat} {x0 x1 x2 x3 x4:Value} (h:B5 w b x0 x1 x2 x3 x4) (hB:Below w.heap.size w w1):B5 w1 b x0 x1 x2 x3 x4 :=
 ⟨qb _ hB h.c0,qb _ hB h.c1,qb _ hB h.c2,qb _ hB h.c3,qb _ hB h.c4⟩
theorem B5.new (w:World) (x0 x1 x2 x3 x4:Value) (t:TypeId):B5 (w.alloc (Obj.cells #[x0,x1,x2,x3,x4] t)) w.heap.size x0 x1 x2 x3 x4 :=
 ⟨by go_cell,by go_cell,by go_cell,by go_cell,by go_cell⟩
set_option maxHeartbeats 1000000 in
theorem Yk (ta:Option Addr) (n tc:Nat) (hn:n≤1000) (x1 x2 x3 x4:Value) (one two:Int) (w:World) :
 Calls qj 97 #[.agg #[.slice ta n tc,x1,x2,x3,x4],.int .i64 one,.int .i64 two] w fun e w'=>e=.returned (.int .i64 (zJ n one two))∧Below w.heap.size w w':=by
 have h1:=Qz one n (by omega) (by omega)
 have h2:=Qz two n (by omega) (by omega)
 unfold zJ
 generalize btw one 0 ((n:Int) - 1)=r1 at *
 generalize btw two 0 ((n:Int) - 1)=r2 at *
 cases r1 <;> cases r2
 all_goals
  go_enter (sf 97 f97),ntmps97
  go_wp2_with (first | (go_at_call 41;(with_reducible refine (h1 _).mono ?_);rintro e w1 ⟨rfl,rfl⟩) | (go_at_call 41;(with_reducible refine (h2 _).mono ?_);rintro e w1 ⟨rfl,rfl⟩))
 all_goals
  go_ret
  exact ⟨by simp_all,by go_grown⟩
theorem qeC (c:UInt8) (w:World):Calls qj 122 #[.int .u8 c.toNat] w fun e w'=>e=.returned (.bool (btw c.toNat 97 122))∧w=w':=by
 by_cases h1:(97:Int)≤(c.toNat:Int)
 ·go_enter (sf 122 f122),ntmps122
  go_wp2
  go_ret
  exact ⟨by simp [btw,h1],rfl⟩
 ·go_enter (sf 122 f122),ntmps122
  go_wp2
  go_ret
  exact ⟨by simp [btw];omega,rfl⟩
theorem qcS (c:UInt8) (w:World):Calls qj 123 #[.int .u8 c.toNat] w fun e w'=>e=.returned (.bool (btw c.toNat 48 57))∧w=w':=by
 by_cases h1:(48:Int)≤(c.toNat:Int)
 ·go_enter (sf 123 f123),ntmps123
  go_wp2
  go_ret
  exact ⟨by simp [btw,h1],rfl⟩
 ·go_enter (sf 123 f123),ntmps123
  go_wp2
  go_ret
  exact ⟨by simp [btw];omega,rfl⟩
def qef (s:ByteArray) (j:Nat):Bool:=btw ((s.data.toList.getD j 0).toNat:Int) 97 122 || (j != 0 && btw ((s.data.toList.getD j 0).toNat:Int) 48 57)
theorem qaI (s:ByteArray) {k:Nat} (hk:k < s.size):Xe k (s.data.toList.getD k 0) = !qef s k:=by
 unfold qef
 obtain ⟨x,hx⟩:∃x,s.data.toList.getD k 0=x:=⟨_,rfl⟩
 rw [hx]
 unfold Xe btw
 by_cases h0:k=0
 ·subst h0
  simp
 ·have:(k != 0)=true:=by simpa using h0
  rw [this]
  have:0 < k:=by omega
  simp [this]
theorem ZI (f:Nat→UInt8→Bool):∀(i:Nat) (l:List UInt8),Yw f i l=true↔∃j,j < l.length∧f (i+j) (l.getD j 0)=true
 | i,[]=>by simp [Yw]
 | i,x :: l=>by
   unfold Yw
   rw [Bool.or_eq_true,ZI f (i+1) l]
   constructor
   ·rintro (h | ⟨j,hj,h⟩)
    ·exact ⟨0,by simp,by simpa using h⟩
    ·exact ⟨j+1,by simpa using hj,by rw [show i+(j+1)=i+1+j by omega];simpa using h⟩
   ·rintro ⟨j,hj,h⟩
    cases j with
    | zero=>exact .inl (by simpa using h)
    | succ j=>exact .inr ⟨j,by simpa using hj,by rw [show i+1+j=i+(j+1) by omega];simpa using h⟩
theorem name_bad {s:ByteArray} {k:Nat} (hk:k < s.size) (h:qef s k=false):Zt s=false:=by
 unfold Zt
 have:Yw Xe 0 s.data.toList=true:=(ZI _ _ _).2 ⟨k,by simpa using hk,by rw [Nat.zero_add,qaI s hk,h];rfl⟩
 rw [this]
 simp
theorem qee {s:ByteArray} (h:∀j,j < s.size→qef s j=true):Zt s=(1≤s.size && s.size≤9:Bool):=by
 unfold Zt
 have:Yw Xe 0 s.data.toList=false:=by
  rw [Bool.eq_false_iff]
  intro h1
  obtain ⟨j,hj,h2⟩:=(ZI _ _ _).1 h1
  have hj':j < s.size:=by simpa using hj
  rw [Nat.zero_add,qaI s hj',h j hj'] at h2
  cases h2
 rw [this]
 simp
set_option maxHeartbeats 2000000 in
set_option maxRecDepth 100000 in
theorem qak (s:ByteArray) (hs:s.size≤100) (w:World):Calls qj 95 #[.string s] w fun e w'=>e=.returned (.bool (Zt s))∧w=w':=by
 obtain ⟨R,hR⟩:∃R,Zt s=R:=⟨_,rfl⟩
 rw [hR]
 have HG:Hid ((∀j,j < s.size→qef s j=true)→R=(1≤s.size && s.size≤9:Bool)):=Lib.hid fun h=>by rw [← hR];exact qee h
 have HB:Hid (∀k,k < s.size→qef s k=false→R=false):=Lib.hid fun k hk h=>by rw [← hR];exact name_bad hk h
 clear hR
 go_enter (sf 95 f95),ntmps95
 go_wp2
 go_loop [3] (fun i=>∃k:Nat,i=.int .i64 k∧k≤s.size∧Hid (∀j,j < k→qef s j=true)) (fun i=>s.size - (intOf i).toNat)
 case atStart=>exact ⟨0,rfl,Nat.zero_le _,Lib.hid fun j hj=>absurd hj (Nat.not_lt_zero _)⟩
 case round =>
  obtain ⟨k,rfl,hk,HK⟩:=hrel
  by_cases hlt:k < s.size
  ·have hk':k < s.data.toList.length:=by simpa using hlt
   have hg:s.data.toList.getD k 0=s[k]:=by rw [List.getD_eq_getElem?_getD,List.getElem?_eq_getElem hk'];rfl
   have hok:qef s k=(btw (s[k].toNat:Int) 97 122 || (k != 0 && btw (s[k].toNat:Int) 48 57)):=by unfold qef;rw [hg]
   have hsm:=fun W=>qeC s[k] W
   have hdi:=fun W=>qcS s[k] W
   have hnext:qef s k=true→Hid (∀j,j < k+1→qef s j=true):=fun h=>Lib.hid fun j hj=>by
    rcases Nat.lt_succ_iff_lt_or_eq.1 hj with h1 | rfl
    ·exact HK.out j h1
    ·exact h
   have hlti:(k:Int) < (s.size:Int):=by omega
   cases h1:btw (s[k].toNat:Int) 97 122 with
   | true =>
     have HN:=hnext (by rw [hok,h1];rfl)
     simp only [h1] at hsm
     clear hok hnext hdi h1
     go_wp2_with (go_at_call 122;refine (hsm _).mono ?_;rintro e w' ⟨rfl,rfl⟩)
     go_round
     case rel=>exact ⟨k+1,by go_num,by omega,HN⟩
     case measure=>simp [intOf];omega
   | false =>
     simp only [h1] at hsm
     by_cases h0:k=0
     ·subst h0
      have hb:=HB.out 0 hlt (by rw [hok,h1];rfl)
      subst hb
      clear hok hnext hdi h1
      go_wp2_with (go_at_call 122;refine (hsm _).mono ?_;rintro e w' ⟨rfl,rfl⟩)
      go_ret
      exact ⟨rfl,rfl⟩
     ·have hkb:((k:Int) == 0)=false:=by rw [beq_eq_false_iff_ne];omega
      cases h2:btw (s[k].toNat:Int) 48 57 with
      | true =>
        have HN:=hnext (by rw [hok,h1,h2];simp [h0])
        simp only [h2] at hdi
        clear hok hnext h1 h2
        go_wp2_with (first | (go_at_call 122;refine (hsm _).mono ?_;rintro e w' ⟨rfl,rfl⟩) | (go_at_call 123;refine (hdi _).mono ?_;rintro e w' ⟨rfl,rfl⟩))
        go_round
        case rel=>exact ⟨k+1,by go_num,by omega,HN⟩
        case measure=>simp [intOf];omega
      | false =>
        have hb:=HB.out k hlt (by rw [hok,h1,h2];simp)
        subst hb
        simp only [h2] at hdi
        clear hok hnext h1 h2
        go_wp2_with (first | (go_at_call 122;refine (hsm _).mono ?_;rintro e w' ⟨rfl,rfl⟩) | (go_at_call 123;refine (hdi _).mono ?_;rintro e w' ⟨rfl,rfl⟩))
        go_ret
        exact ⟨rfl,rfl⟩
  ·obtain rfl:k=s.size:=by omega
   have hR:=HG.out HK.out
   have hin:=YF (s.size:Int) 1 9
   have hb:btw (s.size:Int) 1 9=R:=by rw [hR];unfold btw;by_cases h1:1≤s.size <;> by_cases h2:s.size≤9 <;> simp [h1,h2] <;> omega
   rw [hb] at hin
   clear hR hb
   go_wp2_with (go_at_call 59;refine (hin _).mono ?_;rintro e w' ⟨rfl,rfl⟩)
   go_ret
   exact ⟨rfl,rfl⟩
def XV (s:ByteArray):List ByteArray→Nat→Int
 | [],_=>-1
 | x :: l,i=>if (x.toList == s.toList)=true then i else XV s l (i+1)
theorem XW {s:ByteArray} {l:List ByteArray} {k:Nat} {x:ByteArray} (h:l[k]? = some x):XV s (l.drop k) k=if (x.toList == s.toList)=true then (k:Int) else XV s (l.drop (k+1)) (k+1):=by
 obtain ⟨hk,rfl⟩:=List.getElem?_eq_some_iff.1 h
 rw [List.drop_eq_getElem_cons hk]
 rfl
set_option maxHeartbeats 2000000 in
set_option maxRecDepth 100000 in
theorem JI (l:List ByteArray) (s:ByteArray) (a:Option Addr) (c:Nat) (hl:l.length≤1000) (hc:l.length≤c) (w:World) (h:qh w 1 encS a l) :
 Calls qj 96 #[.slice a l.length c,.string s] w fun e w'=>e=.returned (.int .i64 (XV s l 0))∧w=w':=by
 obtain ⟨R,hR⟩:∃R,XV s l 0=R:=⟨_,rfl⟩
 rw [hR]
 have HR:Hid (XV s (l.drop 0) 0=R):=Lib.hid (by rw [List.drop_zero];exact hR)
 have HC:=Lib.hid h
 clear h hR
 go_enter (sf 96 f96),ntmps96
 go_wp2
 go_loop [5] (fun i=>∃k:Nat,i=.int .i64 k∧k≤l.length∧Hid (XV s (l.drop k) k=R)) (fun i=>l.length - (intOf i).toNat)
 case atStart=>exact ⟨0,rfl,Nat.zero_le _,HR⟩
 case round =>
  obtain ⟨k,rfl,hk,HK⟩:=hrel
  by_cases hlt:k < l.length
  ·obtain ⟨x,hx⟩:∃x,l[k]? = some x:=⟨l[k],by simp [hlt]⟩
   obtain ⟨b,o,rfl,hP⟩:=HC.out (by omega)
   have c0:=hP k x hx 0 _ rfl
   simp only [Nat.mul_one,Nat.add_zero] at c0
   have hkc:(k:Int)≤(c:Int):=by omega
   have hA:=HK.out
   rw [XW hx] at hA
   clear hP hx
   cases hq:(x.toList == s.toList) with
   | true =>
     rw [hq] at hA
     simp only [if_true] at hA
     subst hA
     go_wp2
     go_ret
     exact ⟨rfl,rfl⟩
   | false =>
     rw [hq] at hA
     simp only [Bool.false_eq_true,if_false] at hA
     have HA:=Lib.hid hA
     clear hA
     go_wp2
     go_round
     case rel=>exact ⟨k+1,by go_num,by omega,HA⟩
     case measure=>simp [intOf];omega
  ·obtain rfl:k=l.length:=by omega
   have hA:=HK.out
   rw [List.drop_eq_nil_of_le (Nat.le_refl _)] at hA
   have hA:(-1:Int)=R:=hA
   subst hA
   go_wp2
   go_ret
   exact ⟨rfl,rfl⟩
def hasI (l:List Int) (n:Int):Bool:=l.any fun x=>x == n
set_option maxHeartbeats 2000000 in
set_option maxRecDepth 100000 in
theorem qbv (a:Option Addr) (c:Nat) (L:List Int) (n:Int) (hl:L.length≤100) (hlc:L.length≤c) (w:World) (hc:qh w 1 encI a L):Calls qj 94 #[.slice a L.length c,.int .i64 n] w fun e w'=>e=.returned (.bool (hasI L n))∧w=w':=by
 have HC:=Lib.hid hc
 clear hc
 go_enter (sf 94 f94),ntmps94
 go_wp2
 go_loop [5] (fun i=>∃k:Nat,i=.int .i64 k∧k≤L.length∧Hid (∀(j:Nat) x,j < k→L[j]? = some x→(x == n)=false)) (fun i=>L.length - (intOf i).toNat)
 case atStart=>exact ⟨0,rfl,Nat.zero_le _,Lib.hid fun j x hj=>absurd hj (Nat.not_lt_zero _)⟩
 case round =>
  obtain ⟨k,rfl,hk,HK⟩:=hrel
  by_cases hlt:k < L.length
  ·obtain ⟨x,hx⟩:∃x,L[k]? = some x:=⟨L[k],by simp [hlt]⟩
   obtain ⟨b,o,rfl,hcs⟩:=HC.out (by omega)
   have c0:=hcs k x hx 0 _ rfl
   simp only [Nat.mul_one,Nat.add_zero] at c0
   have hkc:(k:Int)≤(c:Int):=by omega
   have hm:x∈L:=List.mem_of_getElem? hx
   cases hq:(x == n) with
   | true =>
     have hh:hasI L n=true:=List.any_eq_true.2 ⟨x,hm,hq⟩
     clear hx hm hcs
     go_wp2
     go_ret
     exact ⟨rfl,rfl⟩
   | false =>
     have HN:Hid (∀(j:Nat) y,j < k+1→L[j]? = some y→(y == n)=false):=Lib.hid fun j y hj hy=>by
      rcases Nat.lt_succ_iff_lt_or_eq.1 hj with h1 | rfl
      ·exact HK.out j y h1 hy
      ·rw [hx] at hy
       cases hy
       exact hq
     clear hx hm hcs
     go_wp2
     go_round
     case rel=>exact ⟨k+1,by go_num,by omega,HN⟩
     case measure=>simp [intOf];omega
  ·obtain rfl:k=L.length:=by omega
   have hh:hasI L n=false:=by
    unfold hasI
    rw [List.any_eq_false]
    intro x hx
    obtain ⟨j,hj,rfl⟩:=List.getElem_of_mem hx
    rw [HK.out j L[j] hj (by simp [hj])]
    decide
   go_wp2
   go_ret
   exact ⟨rfl,rfl⟩
theorem zs {α:Type}:(∀(l:List α) (i:Nat) (h:i < l.toArray.size),l.toArray[i]=l[i]'(by simpa using h))∧(∀(a:α) (l:List α) (i:Nat) (h:i+1 < (a :: l).length),(a :: l)[i+1]=l[i]'(by simpa using h))∧(∀(a:α) (l:List α) (h:0 < (a :: l).length),(a :: l)[0]=a) ∧
 (∀(l:List α) (i:Nat) (a:α),l.toArray.setIfInBounds i a=(l.set i a).toArray)∧(∀(x y:α) (l:List α),(x :: l).set 0 y=y :: l)∧(∀(x y:α) (l:List α) (i:Nat),(x :: l).set (i+1) y=x :: l.set i y) :=
 ⟨fun _ _ _=>by simp,fun _ _ _ _=>rfl,fun _ _ _=>rfl,fun _ _ _=>by simp,fun _ _ _=>rfl,fun _ _ _ _=>rfl⟩
section
variable {P:Program} {ops:Array Oper} {md:Region.Mode} {Q:Exit→Act→World→Prop} {S:World→Prop}
theorem tk (i:Nat) {oi:Oper} {v:Value} {fuel:Nat} {listed:Array Bool} {a:Act} {w:World} (h:wpAnyH P md ops Q S fuel (listed.setIfInBounds i true) (a.put oi.dst v) w) (hi:ops[i]? = some oi:=by rfl)
 (hs:Region.noSelect ops=true:=by kernel_rfl) (hf:Region.free md ops listed i=true:=by kernel_rfl) (hr:(Region.ready md ops listed).contains i=true:=by kernel_rfl)
 (hy:YieldsIf P ops S oi v a:=by exact Or.inl ⟨by kernel_rfl,by intro w hSw;(try dsimp only at hSw);go_simp;first | done | with_reducible rfl⟩) (hS:S w:=by assumption)
 (hQ:∀c a w,Q (.panic c) (a.put oi.dst v) w→Q (.panic c) a w:=by exact fun _ _ _ h=>h):wpAnyH P md ops Q S (fuel+1) listed a w :=
 wpAnyH_take hi hs hf hr hQ hy hS h
end
@[reducible] def CL:List (Addr×Value)→World→Prop→Prop
  | [],_,p=>p
  | (a,v) :: l,X,p=>X.cell? a=some v∧CL l X p
theorem CL.imp {X Y:World} {p q:Prop} (hc:∀a v,X.cell? a=some v→Y.cell? a=some v) (hp:p→q):∀{L:List (Addr×Value)},CL L X p→CL L Y q
 | [],h=>hp h
 | (a,v) :: _,h=>⟨hc a v h.1,CL.imp hc hp h.2⟩
theorem CL.out {X:World} {p:Prop}:∀{L:List (Addr×Value)},CL L X p→p
 | [],h=>h
 | (_,_) :: _,h=>CL.out h.2
abbrev RHL (L:List (Addr×Value)) (W X:World):Prop:=CL L X (Below W.heap.size W X)
section
variable {L:List (Addr×Value)} {W X Y:World}
theorem RHL.call (h:RHL L W X) (hB:Below X.heap.size X Y):RHL L W Y:=CL.imp (fun _ _ h=>qb _ hB h) (fun hb=>bcl hb hB) h
theorem RHL.bel (h:RHL L W X):Below W.heap.size W X:=CL.out h
theorem RHL.drew (h:RHL L W X):RHL L W X.drew:=RHL.call h (Below.refl _ X).drew
end
abbrev RH2 (W:World) (a0 a1:Addr) (v0 v1:Value) (X:World):Prop:=RHL [(a0,v0),(a1,v1)] W X
abbrev RH3 (W:World) (a0 a1 a2:Addr) (v0 v1 v2:Value) (X:World):Prop:=RHL [(a0,v0),(a1,v1),(a2,v2)] W X
abbrev RH4 (W:World) (a0 a1 a2 a3:Addr) (v0 v1 v2 v3:Value) (X:World):Prop:=RHL [(a0,v0),(a1,v1),(a2,v2),(a3,v3)] W X
abbrev RH5 (W:World) (a0 a1 a2 a3 a4:Addr) (v0 v1 v2 v3 v4:Value) (X:World):Prop:=RHL [(a0,v0),(a1,v1),(a2,v2),(a3,v3),(a4,v4)] W X
abbrev RH6 (W:World) (a0 a1 a2 a3 a4 a5:Addr) (v0 v1 v2 v3 v4 v5:Value) (X:World):Prop:=RHL [(a0,v0),(a1,v1),(a2,v2),(a3,v3),(a4,v4),(a5,v5)] W X
abbrev RH9 (W:World) (a0 a1 a2 a3 a4 a5 a6 a7 a8:Addr) (v0 v1 v2 v3 v4 v5 v6 v7 v8:Value) (X:World):Prop:=RHL [(a0,v0),(a1,v1),(a2,v2),(a3,v3),(a4,v4),(a5,v5),(a6,v6),(a7,v7),(a8,v8)] W X
abbrev RH10 (W:World) (a0 a1 a2 a3 a4 a5 a6 a7 a8 a9:Addr) (v0 v1 v2 v3 v4 v5 v6 v7 v8 v9:Value) (X:World):Prop:=RHL [(a0,v0),(a1,v1),(a2,v2),(a3,v3),(a4,v4),(a5,v5),(a6,v6),(a7,v7),(a8,v8),(a9,v9)] W X
abbrev RH11 (W:World) (a0 a1 a2 a3 a4 a5 a6 a7 a8 a9 a10:Addr) (v0 v1 v2 v3 v4 v5 v6 v7 v8 v9 v10:Value) (X:World):Prop:=RHL [(a0,v0),(a1,v1),(a2,v2),(a3,v3),(a4,v4),(a5,v5),(a6,v6),(a7,v7),(a8,v8),(a9,v9),(a10,v10)] W X
abbrev RH16 (W:World) (a0 a1 a2 a3 a4 a5 a6 a7 a8 a9 a10 a11 a12 a13 a14 a15:Addr) (v0 v1 v2 v3 v4 v5 v6 v7 v8 v9 v10 v11 v12 v13 v14 v15:Value) (X:World):Prop:=RHL [(a0,v0),(a1,v1),(a2,v2),(a3,v3),(a4,v4),(a5,v5),(a6,v6),(a7,v7),(a8,v8),(a9,v9),(a10,v10),(a11,v11),(a12,v12),(a13,v13),(a14,v14),(a15,v15)] W X
end Go.Proofs.Tryz
namespace Go.LoadR
open Go Go.Load Go.RowKit
theorem qao {P:Program} {fn:Func} {ts:Array Value} {p q r:Tmp} {ty:TypeId} {w:World} {a:Addr} {v u x:Value} (h:fn.results=#[.cell p ty,.tmp q,.tmp r]) (hp:ts.getD p undef=.pointer (some a)) (hq:ts.getD q undef=u) (hr:ts.getD r undef=x) (hl:(loadVar ty a).run P w=.ok v w):(results fn ts).run P w=.ok (.tuple #[v,u,x]) w:=by
 unfold results
 rw [h]
 simp only [List.mapM_toArray,List.mapM_cons,List.mapM_nil,hp,hq,hr,asAddr,bind_assoc,pure_bind,map_eq_pure_bind,Sem.run_bind,hl,Result.andThen_ok,Sem.run_pure]
 rfl
def set2 (w:World) (b:Nat) (v0 v1:Value):World:=(w.setCell ⟨b,0,none⟩ v0).setCell ⟨b,1,none⟩ v1
theorem load_2 {P:Program} {ty:TypeId} {w:World} {b:Nat} {v0 v1:Value} (hA:∀w,(isAgg ty).run P w=.ok true w) (hS:∀w,(Go.sizeOf ty).run P w=.ok 2 w) (k0:w.cell? ⟨b,0,none⟩=some v0) (k1:w.cell? ⟨b,1,none⟩=some v1) :
 (loadVar ty ⟨b,0,none⟩).run P w=.ok (.agg #[v0,v1]) w:=by
 unfold loadVar
 simp only [Sem.run_bind,hA,hS,Result.andThen_ok,if_true,loadCells,loadCellsFrom,run_load,Addr.add,k0,k1,Sem.run_pure,Option.isSome_none,Bool.false_eq_true,if_false,Nat.zero_add,Nat.add_zero,Nat.one_ne_zero,Nat.reduceAdd]
 rfl
theorem put2 {w:World} {b:Nat} {u0 u1:Value} (v0 v1:Value) (c0:w.cell? ⟨b,0,none⟩=some u0) (c1:w.cell? ⟨b,1,none⟩=some u1) :
 (set2 w b v0 v1).cell? ⟨b,0,none⟩=some v0∧(set2 w b v0 v1).cell? ⟨b,1,none⟩=some v1:=by
 unfold set2
 exact ⟨(qx (by simp) (qp (qz c0))),(qp (qB (qz c1)))⟩
theorem Below.set2 {B:Nat} {w w1:World} {b:Nat} {v0 v1:Value} (h:Below B w w1) (hb:B≤b):Below B w (LoadR.set2 w1 b v0 v1):=(h.setCell hb _).setCell hb _
theorem ret_ct2 {P:Program} {fn:Func} {R:Ending→World→Prop} {ts:Array Value} {p q:Tmp} {ty:TypeId} {w1:World} {b:Nat} {u0 u1 v0 v1 a:Value} (h:fn.results=#[.cell p ty,.tmp q]) (hA:∀w,(isAgg ty).run P w=.ok true w) (hS:∀w,(Go.sizeOf ty).run P w=.ok 2 w)
 (hp:ts.getD p undef=.pointer (some ⟨b,0,none⟩)) (hq:ts.getD q undef=a) (c0:w1.cell? ⟨b,0,none⟩=some u0) (c1:w1.cell? ⟨b,1,none⟩=some u1)
 (hR:R (.returned (.tuple #[.agg #[v0,v1],a])) (set2 w1 b v0 v1)) :
 bodyPost P fn R .ret ⟨ts,[]⟩ ((w1.setCell ⟨b,0,none⟩ v0).setCell ⟨b,1,none⟩ v1):=by
 obtain ⟨e0,e1⟩:=put2 v0 v1 c0 c1
 exact bodyPost_ret (jB h hp hq (load_2 hA hS e0 e1)) rfl hR
def set5 (w:World) (b:Nat) (v0 v1 v2 v3 v4:Value):World:=((((w.setCell ⟨b,0,none⟩ v0).setCell ⟨b,1,none⟩ v1).setCell ⟨b,2,none⟩ v2).setCell ⟨b,3,none⟩ v3).setCell ⟨b,4,none⟩ v4
theorem qdO {P:Program} {ty:TypeId} {w:World} {b:Nat} {v0 v1 v2 v3 v4:Value} (hA:∀w,(isAgg ty).run P w=.ok true w) (hS:∀w,(Go.sizeOf ty).run P w=.ok 5 w) (k0:w.cell? ⟨b,0,none⟩=some v0) (k1:w.cell? ⟨b,1,none⟩=some v1) (k2:w.cell? ⟨b,2,none⟩=some v2) (k3:w.cell? ⟨b,3,none⟩=some v3) (k4:w.cell? ⟨b,4,none⟩=some v4) :
 (loadVar ty ⟨b,0,none⟩).run P w=.ok (.agg #[v0,v1,v2,v3,v4]) w:=by
 unfold loadVar
 simp only [Sem.run_bind,hA,hS,Result.andThen_ok,if_true,loadCells,loadCellsFrom,run_load,Addr.add,k0,k1,k2,k3,k4,Sem.run_pure,Option.isSome_none,Bool.false_eq_true,if_false,Nat.zero_add,Nat.add_zero,Nat.one_ne_zero,Nat.reduceAdd,show ¬ (2:Nat)=0 by decide,show ¬ (3:Nat)=0 by decide,show ¬ (4:Nat)=0 by decide]
 rfl
theorem put5 {w:World} {b:Nat} {u0 u1 u2 u3 u4:Value} (v0 v1 v2 v3 v4:Value) (c0:w.cell? ⟨b,0,none⟩=some u0) (c1:w.cell? ⟨b,1,none⟩=some u1) (c2:w.cell? ⟨b,2,none⟩=some u2) (c3:w.cell? ⟨b,3,none⟩=some u3) (c4:w.cell? ⟨b,4,none⟩=some u4) :
 (set5 w b v0 v1 v2 v3 v4).cell? ⟨b,0,none⟩=some v0∧(set5 w b v0 v1 v2 v3 v4).cell? ⟨b,1,none⟩=some v1∧(set5 w b v0 v1 v2 v3 v4).cell? ⟨b,2,none⟩=some v2∧(set5 w b v0 v1 v2 v3 v4).cell? ⟨b,3,none⟩=some v3∧(set5 w b v0 v1 v2 v3 v4).cell? ⟨b,4,none⟩=some v4:=by
 unfold set5
 exact ⟨(qx (by simp) (qx (by simp) (qx (by simp) (qx (by simp) (qp (qz c0)))))),(qx (by simp) (qx (by simp) (qx (by simp) (qp (qB (qz c1)))))),(qx (by simp) (qx (by simp) (qp (qB (qB (qz c2)))))),(qx (by simp) (qp (qB (qB (qB (qz c3)))))),(qp (qB (qB (qB (qB (qz c4))))))⟩
theorem Below.set5 {B:Nat} {w w1:World} {b:Nat} {v0 v1 v2 v3 v4:Value} (h:Below B w w1) (hb:B≤b):Below B w (LoadR.set5 w1 b v0 v1 v2 v3 v4):=((((h.setCell hb _).setCell hb _).setCell hb _).setCell hb _).setCell hb _
theorem qez {w:World} {b k:Nat} {v0 v1 v2 v3 v4:Value} (h:k≠b):(set5 w b v0 v1 v2 v3 v4).heap[k]? = w.heap[k]? := (Below.heap_setCell _ _ _ _ h).trans <| (Below.heap_setCell _ _ _ _ h).trans <| (Below.heap_setCell _ _ _ _ h).trans <| (Below.heap_setCell _ _ _ _ h).trans <| Below.heap_setCell _ _ _ _ h
theorem ret_c5 {P:Program} {fn:Func} {R:Ending→World→Prop} {ts:Array Value} {p:Tmp} {ty:TypeId} {w1:World} {b:Nat} {u0 u1 u2 u3 u4 v0 v1 v2 v3 v4:Value} (h:fn.results=#[.cell p ty]) (hA:∀w,(isAgg ty).run P w=.ok true w) (hS:∀w,(Go.sizeOf ty).run P w=.ok 5 w)
 (hp:ts.getD p undef=.pointer (some ⟨b,0,none⟩)) (c0:w1.cell? ⟨b,0,none⟩=some u0) (c1:w1.cell? ⟨b,1,none⟩=some u1) (c2:w1.cell? ⟨b,2,none⟩=some u2) (c3:w1.cell? ⟨b,3,none⟩=some u3) (c4:w1.cell? ⟨b,4,none⟩=some u4)
 (hR:R (.returned (.agg #[v0,v1,v2,v3,v4])) (set5 w1 b v0 v1 v2 v3 v4)) :
 bodyPost P fn R .ret ⟨ts,[]⟩ (((((w1.setCell ⟨b,0,none⟩ v0).setCell ⟨b,1,none⟩ v1).setCell ⟨b,2,none⟩ v2).setCell ⟨b,3,none⟩ v3).setCell ⟨b,4,none⟩ v4):=by
 obtain ⟨e0,e1,e2,e3,e4⟩:=put5 v0 v1 v2 v3 v4 c0 c1 c2 c3 c4
 exact bodyPost_ret (Qu h hp (qdO hA hS e0 e1 e2 e3 e4)) rfl hR
theorem ret_ct5 {P:Program} {fn:Func} {R:Ending→World→Prop} {ts:Array Value} {p q:Tmp} {ty:TypeId} {w1:World} {b:Nat} {u0 u1 u2 u3 u4 v0 v1 v2 v3 v4 a:Value} (h:fn.results=#[.cell p ty,.tmp q]) (hA:∀w,(isAgg ty).run P w=.ok true w) (hS:∀w,(Go.sizeOf ty).run P w=.ok 5 w)
 (hp:ts.getD p undef=.pointer (some ⟨b,0,none⟩)) (hq:ts.getD q undef=a) (c0:w1.cell? ⟨b,0,none⟩=some u0) (c1:w1.cell? ⟨b,1,none⟩=some u1) (c2:w1.cell? ⟨b,2,none⟩=some u2) (c3:w1.cell? ⟨b,3,none⟩=some u3) (c4:w1.cell? ⟨b,4,none⟩=some u4)
 (hR:R (.returned (.tuple #[.agg #[v0,v1,v2,v3,v4],a])) (set5 w1 b v0 v1 v2 v3 v4)) :
 bodyPost P fn R .ret ⟨ts,[]⟩ (((((w1.setCell ⟨b,0,none⟩ v0).setCell ⟨b,1,none⟩ v1).setCell ⟨b,2,none⟩ v2).setCell ⟨b,3,none⟩ v3).setCell ⟨b,4,none⟩ v4):=by
 obtain ⟨e0,e1,e2,e3,e4⟩:=put5 v0 v1 v2 v3 v4 c0 c1 c2 c3 c4
 exact bodyPost_ret (jB h hp hq (qdO hA hS e0 e1 e2 e3 e4)) rfl hR
def set6 (w:World) (b:Nat) (v0 v1 v2 v3 v4 v5:Value):World:=(((((w.setCell ⟨b,0,none⟩ v0).setCell ⟨b,1,none⟩ v1).setCell ⟨b,2,none⟩ v2).setCell ⟨b,3,none⟩ v3).setCell ⟨b,4,none⟩ v4).setCell ⟨b,5,none⟩ v5
theorem load_6 {P:Program} {ty:TypeId} {w:World} {b:Nat} {v0 v1 v2 v3 v4 v5:Value} (hA:∀w,(isAgg ty).run P w=.ok true w) (hS:∀w,(Go.sizeOf ty).run P w=.ok 6 w) (k0:w.cell? ⟨b,0,none⟩=some v0) (k1:w.cell? ⟨b,1,none⟩=some v1) (k2:w.cell? ⟨b,2,none⟩=some v2) (k3:w.cell? ⟨b,3,none⟩=some v3) (k4:w.cell? ⟨b,4,none⟩=some v4) (k5:w.cell? ⟨b,5,none⟩=some v5) :
 (loadVar ty ⟨b,0,none⟩).run P w=.ok (.agg #[v0,v1,v2,v3,v4,v5]) w:=by
 unfold loadVar
 simp only [Sem.run_bind,hA,hS,Result.andThen_ok,if_true,loadCells,loadCellsFrom,run_load,Addr.add,k0,k1,k2,k3,k4,k5,Sem.run_pure,Option.isSome_none,Bool.false_eq_true,if_false,Nat.zero_add,Nat.add_zero,Nat.one_ne_zero,Nat.reduceAdd,show ¬ (2:Nat)=0 by decide,show ¬ (3:Nat)=0 by decide,show ¬ (4:Nat)=0 by decide,show ¬ (5:Nat)=0 by decide]
 rfl
theorem put6 {w:World} {b:Nat} {u0 u1 u2 u3 u4 u5:Value} (v0 v1 v2 v3 v4 v5:Value) (c0:w.cell? ⟨b,0,none⟩=some u0) (c1:w.cell? ⟨b,1,none⟩=some u1) (c2:w.cell? ⟨b,2,none⟩=some u2) (c3:w.cell? ⟨b,3,none⟩=some u3) (c4:w.cell? ⟨b,4,none⟩=some u4) (c5:w.cell? ⟨b,5,none⟩=some u5) :
 (set6 w b v0 v1 v2 v3 v4 v5).cell? ⟨b,0,none⟩=some v0∧(set6 w b v0 v1 v2 v3 v4 v5).cell? ⟨b,1,none⟩=some v1∧(set6 w b v0 v1 v2 v3 v4 v5).cell? ⟨b,2,none⟩=some v2∧(set6 w b v0 v1 v2 v3 v4 v5).cell? ⟨b,3,none⟩=some v3∧(set6 w b v0 v1 v2 v3 v4 v5).cell? ⟨b,4,none⟩=some v4∧(set6 w b v0 v1 v2 v3 v4 v5).cell? ⟨b,5,none⟩=some v5:=by
 unfold set6
 exact ⟨(qx (by simp) (qx (by simp) (qx (by simp) (qx (by simp) (qx (by simp) (qp (qz c0))))))),(qx (by simp) (qx (by simp) (qx (by simp) (qx (by simp) (qp (qB (qz c1))))))),(qx (by simp) (qx (by simp) (qx (by simp) (qp (qB (qB (qz c2))))))),(qx (by simp) (qx (by simp) (qp (qB (qB (qB (qz c3))))))),(qx (by simp) (qp (qB (qB (qB (qB (qz c4))))))),(qp (qB (qB (qB (qB (qB (qz c5)))))))⟩
theorem Below.set6 {B:Nat} {w w1:World} {b:Nat} {v0 v1 v2 v3 v4 v5:Value} (h:Below B w w1) (hb:B≤b):Below B w (LoadR.set6 w1 b v0 v1 v2 v3 v4 v5):=(((((h.setCell hb _).setCell hb _).setCell hb _).setCell hb _).setCell hb _).setCell hb _
theorem qeA {w:World} {b k:Nat} {v0 v1 v2 v3 v4 v5:Value} (h:k≠b):(set6 w b v0 v1 v2 v3 v4 v5).heap[k]? = w.heap[k]? := (Below.heap_setCell _ _ _ _ h).trans <| (Below.heap_setCell _ _ _ _ h).trans <| (Below.heap_setCell _ _ _ _ h).trans <| (Below.heap_setCell _ _ _ _ h).trans <| (Below.heap_setCell _ _ _ _ h).trans <| Below.heap_setCell _ _ _ _ h
theorem qes {P:Program} {fn:Func} {R:Ending→World→Prop} {ts:Array Value} {p q:Tmp} {ty:TypeId} {w1:World} {b:Nat} {u0 u1 u2 u3 u4 u5 v0 v1 v2 v3 v4 v5 a:Value} (h:fn.results=#[.cell p ty,.tmp q]) (hA:∀w,(isAgg ty).run P w=.ok true w) (hS:∀w,(Go.sizeOf ty).run P w=.ok 6 w)
 (hp:ts.getD p undef=.pointer (some ⟨b,0,none⟩)) (hq:ts.getD q undef=a) (c0:w1.cell? ⟨b,0,none⟩=some u0) (c1:w1.cell? ⟨b,1,none⟩=some u1) (c2:w1.cell? ⟨b,2,none⟩=some u2) (c3:w1.cell? ⟨b,3,none⟩=some u3) (c4:w1.cell? ⟨b,4,none⟩=some u4) (c5:w1.cell? ⟨b,5,none⟩=some u5)
 (hR:R (.returned (.tuple #[.agg #[v0,v1,v2,v3,v4,v5],a])) (set6 w1 b v0 v1 v2 v3 v4 v5)) :
 bodyPost P fn R .ret ⟨ts,[]⟩ ((((((w1.setCell ⟨b,0,none⟩ v0).setCell ⟨b,1,none⟩ v1).setCell ⟨b,2,none⟩ v2).setCell ⟨b,3,none⟩ v3).setCell ⟨b,4,none⟩ v4).setCell ⟨b,5,none⟩ v5):=by
 obtain ⟨e0,e1,e2,e3,e4,e5⟩:=put6 v0 v1 v2 v3 v4 v5 c0 c1 c2 c3 c4 c5
 exact bodyPost_ret (jB h hp hq (load_6 hA hS e0 e1 e2 e3 e4 e5)) rfl hR
theorem ZB {P:Program} {fn:Func} {R:Ending→World→Prop} {ts:Array Value} {p q r:Tmp} {ty:TypeId} {w1:World} {b:Nat} {u0 u1 u2 u3 u4 u5 v0 v1 v2 v3 v4 v5 a a2:Value} (h:fn.results=#[.cell p ty,.tmp q,.tmp r]) (hA:∀w,(isAgg ty).run P w=.ok true w) (hS:∀w,(Go.sizeOf ty).run P w=.ok 6 w)
 (hp:ts.getD p undef=.pointer (some ⟨b,0,none⟩)) (hq:ts.getD q undef=a) (hr:ts.getD r undef=a2) (c0:w1.cell? ⟨b,0,none⟩=some u0) (c1:w1.cell? ⟨b,1,none⟩=some u1) (c2:w1.cell? ⟨b,2,none⟩=some u2) (c3:w1.cell? ⟨b,3,none⟩=some u3) (c4:w1.cell? ⟨b,4,none⟩=some u4) (c5:w1.cell? ⟨b,5,none⟩=some u5)
 (hR:R (.returned (.tuple #[.agg #[v0,v1,v2,v3,v4,v5],a,a2])) (set6 w1 b v0 v1 v2 v3 v4 v5)) :
 bodyPost P fn R .ret ⟨ts,[]⟩ ((((((w1.setCell ⟨b,0,none⟩ v0).setCell ⟨b,1,none⟩ v1).setCell ⟨b,2,none⟩ v2).setCell ⟨b,3,none⟩ v3).setCell ⟨b,4,none⟩ v4).setCell ⟨b,5,none⟩ v5):=by
 obtain ⟨e0,e1,e2,e3,e4,e5⟩:=put6 v0 v1 v2 v3 v4 v5 c0 c1 c2 c3 c4 c5
 exact bodyPost_ret (qao h hp hq hr (load_6 hA hS e0 e1 e2 e3 e4 e5)) rfl hR
theorem load_9 {P:Program} {ty:TypeId} {w:World} {b:Nat} {v0 v1 v2 v3 v4 v5 v6 v7 v8:Value} (hA:∀w,(isAgg ty).run P w=.ok true w) (hS:∀w,(Go.sizeOf ty).run P w=.ok 9 w) (k0:w.cell? ⟨b,0,none⟩=some v0) (k1:w.cell? ⟨b,1,none⟩=some v1) (k2:w.cell? ⟨b,2,none⟩=some v2) (k3:w.cell? ⟨b,3,none⟩=some v3) (k4:w.cell? ⟨b,4,none⟩=some v4) (k5:w.cell? ⟨b,5,none⟩=some v5) (k6:w.cell? ⟨b,6,none⟩=some v6) (k7:w.cell? ⟨b,7,none⟩=some v7) (k8:w.cell? ⟨b,8,none⟩=some v8) :
 (loadVar ty ⟨b,0,none⟩).run P w=.ok (.agg #[v0,v1,v2,v3,v4,v5,v6,v7,v8]) w:=by
 unfold loadVar
 simp only [Sem.run_bind,hA,hS,Result.andThen_ok,if_true,loadCells,loadCellsFrom,run_load,Addr.add,k0,k1,k2,k3,k4,k5,k6,k7,k8,Sem.run_pure,Option.isSome_none,Bool.false_eq_true,if_false,Nat.zero_add,Nat.add_zero,Nat.one_ne_zero,Nat.reduceAdd,show ¬ (2:Nat)=0 by decide,show ¬ (3:Nat)=0 by decide,show ¬ (4:Nat)=0 by decide,show ¬ (5:Nat)=0 by decide,show ¬ (6:Nat)=0 by decide,show ¬ (7:Nat)=0 by decide,show ¬ (8:Nat)=0 by decide]
 rfl
end Go.LoadR
