/-
  Lemmas about the program and the machine (SrcF to C18), upon which the last text of this claim rests; no condition.
-/
import Derived.KernelRfl
import Derived.Deep.QuietTactic
import Derived.BigQuiet
import Derived.Lib.Hide
import Derived.RegionTactic
import Derived.LoopTactic
import Derived.Outline
import Derived.Below
import Derived.Handy
import Derived.RegionCalls
import Derived.RangeFuncNested
import Derived.RangeFuncBound
import Derived.RangeFuncCalls
import Derived.RangeFuncLeaves
import Derived.Shelf.Abstract
import Derived.Shelf.RegionOpen
import Derived.OwnWalkIn
import Derived.TacticsInMore
import Derived.LoopNIn
import Derived.LoopIn
import Derived.Deep.RegionHeld3
import Derived.WalkLawsBesides
import Derived.Lib.SmallJoins
import Derived.Test.YtnpjncjnmpfgpaaGreatDoorG02
set_option linter.unusedSimpArgs false
set_option linter.unusedVariables false
namespace Go.Proofs.Tryz
open Go Go.Sim
theorem za:qf.toTables=prog.toTables:=by unfold qf;rfl
@[go_sem] theorem qY (t:TypeId):qf.underlying t=prog.underlying t:=qcn za _
@[go_sem] theorem yE (t:TypeId):qf.info? t=prog.info? t:=JR za _
@[go_sem] theorem src_runUnd (t:TypeId) (w:World):(Go.underlying t).run qf w=(Go.underlying t).run prog w:=ZF za _ _
@[go_sem] theorem src_runInfo (t:TypeId) (w:World):(Go.typeInfo t).run qf w=(Go.typeInfo t).run prog w:=jk za _ _
@[go_sem] theorem src_depth:qf.depth=prog.depth:=qcE za
@[go_sem] theorem src_cellsOf (t:TypeId):qf.cellsOf t=prog.cellsOf t:=JC za _
@[go_sem] theorem src_globals:qf.globals=prog.globals:=JM za
@[go_sem] theorem zB (t:TypeId) (w:World):(Go.isAgg t).run qf w=(Go.isAgg t).run prog w:=Xi za _ _
@[go_sem] theorem yh (t:TypeId) (w:World):(Go.sizeOf t).run qf w=(Go.sizeOf t).run prog w:=YM za _ _
@[go_sem] theorem src_zeroValue (t:TypeId) (w:World):(Go.zeroValue t).run qf w=(Go.zeroValue t).run prog w:=QS za _ _
@[go_sem] theorem s65:qf.funcs[65]? = some f65:=by kernel_rfl
@[go_sem] theorem c65 (a w):(callFunc 65 a).run qf w=.ok (.enter 65 a) w:=qh s65 (by kernel_rfl) (by kernel_rfl) a w
@[go_sem] theorem s85:qf.funcs[85]? = some f85:=by kernel_rfl
@[go_sem] theorem c85 (a w):(callFunc 85 a).run qf w=.ok (.enter 85 a) w:=qh s85 (by kernel_rfl) (by kernel_rfl) a w
@[go_sem] theorem s71:qf.funcs[71]? = some f71:=by kernel_rfl
@[go_sem] theorem c71 (a w):(callFunc 71 a).run qf w=.ok (.enter 71 a) w:=qh s71 (by kernel_rfl) (by kernel_rfl) a w
@[go_sem] theorem s91:qf.funcs[91]? = some f91:=by kernel_rfl
@[go_sem] theorem c91 (a w):(callFunc 91 a).run qf w=.ok (.enter 91 a) w:=qh s91 (by kernel_rfl) (by kernel_rfl) a w
@[go_sem] theorem s93:qf.funcs[93]? = some f93:=by kernel_rfl
@[go_sem] theorem c93 (a w):(callFunc 93 a).run qf w=.ok (.enter 93 a) w:=qh s93 (by kernel_rfl) (by kernel_rfl) a w
@[go_sem] theorem s46:qf.funcs[46]? = some f46:=by kernel_rfl
@[go_sem] theorem c46 (a w):(callFunc 46 a).run qf w=.ok (.enter 46 a) w:=qh s46 (by kernel_rfl) (by kernel_rfl) a w
@[go_sem] theorem s77:qf.funcs[77]? = some f77:=by kernel_rfl
@[go_sem] theorem c77 (a w):(callFunc 77 a).run qf w=.ok (.enter 77 a) w:=qh s77 (by kernel_rfl) (by kernel_rfl) a w
@[go_sem] theorem s125:qf.funcs[125]? = some f125:=by kernel_rfl
@[go_sem] theorem c125 (a w):(callFunc 125 a).run qf w=.ok (.enter 125 a) w:=qh s125 (by kernel_rfl) (by kernel_rfl) a w
@[go_sem] theorem s90:qf.funcs[90]? = some f90:=by kernel_rfl
@[go_sem] theorem c90 (a w):(callFunc 90 a).run qf w=.ok (.enter 90 a) w:=qh s90 (by kernel_rfl) (by kernel_rfl) a w
@[go_sem] theorem s47:qf.funcs[47]? = some f47:=by kernel_rfl
@[go_sem] theorem c47 (a w):(callFunc 47 a).run qf w=.ok (.enter 47 a) w:=qh s47 (by kernel_rfl) (by kernel_rfl) a w
@[go_sem] theorem s124:qf.funcs[124]? = some f124:=by kernel_rfl
@[go_sem] theorem c124 (a w):(callFunc 124 a).run qf w=.ok (.enter 124 a) w:=qh s124 (by kernel_rfl) (by kernel_rfl) a w
@[go_sem] theorem s133:qf.funcs[133]? = some f133:=by kernel_rfl
@[go_sem] theorem c133 (a w):(callFunc 133 a).run qf w=.ok (.enter 133 a) w:=qh s133 (by kernel_rfl) (by kernel_rfl) a w
@[go_sem] theorem s87:qf.funcs[87]? = some f87:=by kernel_rfl
@[go_sem] theorem c87 (a w):(callFunc 87 a).run qf w=.ok (.enter 87 a) w:=qh s87 (by kernel_rfl) (by kernel_rfl) a w
@[go_sem] theorem s88:qf.funcs[88]? = some f88:=by kernel_rfl
@[go_sem] theorem c88 (a w):(callFunc 88 a).run qf w=.ok (.enter 88 a) w:=qh s88 (by kernel_rfl) (by kernel_rfl) a w
@[go_sem] theorem s92:qf.funcs[92]? = some f92:=by kernel_rfl
@[go_sem] theorem c92 (a w):(callFunc 92 a).run qf w=.ok (.enter 92 a) w:=qh s92 (by kernel_rfl) (by kernel_rfl) a w
@[go_sem] theorem s86:qf.funcs[86]? = some f86:=by kernel_rfl
@[go_sem] theorem c86 (a w):(callFunc 86 a).run qf w=.ok (.enter 86 a) w:=qh s86 (by kernel_rfl) (by kernel_rfl) a w
@[go_sem] theorem s34:qf.funcs[34]? = some f34:=by kernel_rfl
@[go_sem] theorem c34 (a w):(callFunc 34 a).run qf w=.ok (.enter 34 a) w:=qh s34 (by kernel_rfl) (by kernel_rfl) a w
@[go_sem] theorem s35:qf.funcs[35]? = some f35:=by kernel_rfl
@[go_sem] theorem c35 (a w):(callFunc 35 a).run qf w=.ok (.enter 35 a) w:=qh s35 (by kernel_rfl) (by kernel_rfl) a w
@[go_sem] theorem s36:qf.funcs[36]? = some f36:=by kernel_rfl
@[go_sem] theorem c36 (a w):(callFunc 36 a).run qf w=.ok (.enter 36 a) w:=qh s36 (by kernel_rfl) (by kernel_rfl) a w
@[go_sem] theorem s89:qf.funcs[89]? = some f89:=by kernel_rfl
@[go_sem] theorem c89 (a w):(callFunc 89 a).run qf w=.ok (.enter 89 a) w:=qh s89 (by kernel_rfl) (by kernel_rfl) a w
@[go_sem] theorem s39:qf.funcs[39]? = some f39:=by kernel_rfl
@[go_sem] theorem c39 (a w):(callFunc 39 a).run qf w=.ok (.enter 39 a) w:=qh s39 (by kernel_rfl) (by kernel_rfl) a w
@[go_sem] theorem s37:qf.funcs[37]? = some f37:=by kernel_rfl
@[go_sem] theorem c37 (a w):(callFunc 37 a).run qf w=.ok (.enter 37 a) w:=qh s37 (by kernel_rfl) (by kernel_rfl) a w
@[go_sem] theorem s38:qf.funcs[38]? = some f38:=by kernel_rfl
@[go_sem] theorem c38 (a w):(callFunc 38 a).run qf w=.ok (.enter 38 a) w:=qh s38 (by kernel_rfl) (by kernel_rfl) a w
@[go_sem] theorem s73:qf.funcs[73]? = some f73:=by kernel_rfl
@[go_sem] theorem c73 (a w):(callFunc 73 a).run qf w=.ok (.enter 73 a) w:=qh s73 (by kernel_rfl) (by kernel_rfl) a w
@[go_sem] theorem s22:qf.funcs[22]? = some f22:=by kernel_rfl
@[go_sem] theorem c22 (a w):(callFunc 22 a).run qf w=.ok (.enter 22 a) w:=qh s22 (by kernel_rfl) (by kernel_rfl) a w
@[go_sem] theorem s12:qf.funcs[12]? = some f12:=by kernel_rfl
@[go_sem] theorem c12 (a w):(callFunc 12 a).run qf w=.ok (.enter 12 a) w:=qh s12 (by kernel_rfl) (by kernel_rfl) a w
@[go_sem] theorem s24:qf.funcs[24]? = some f24:=by kernel_rfl
@[go_sem] theorem c24 (a w):(callFunc 24 a).run qf w=.ok (.enter 24 a) w:=qh s24 (by kernel_rfl) (by kernel_rfl) a w
@[go_sem] theorem s26:qf.funcs[26]? = some f26:=by kernel_rfl
@[go_sem] theorem c26 (a w):(callFunc 26 a).run qf w=.ok (.enter 26 a) w:=qh s26 (by kernel_rfl) (by kernel_rfl) a w
@[go_sem] theorem s81:qf.funcs[81]? = some f81:=by kernel_rfl
@[go_sem] theorem c81 (a w):(callFunc 81 a).run qf w=.ok (.enter 81 a) w:=qh s81 (by kernel_rfl) (by kernel_rfl) a w
@[go_sem] theorem s28:qf.funcs[28]? = some f28:=by kernel_rfl
@[go_sem] theorem c28 (a w):(callFunc 28 a).run qf w=.ok (.enter 28 a) w:=qh s28 (by kernel_rfl) (by kernel_rfl) a w
@[go_sem] theorem s20:qf.funcs[20]? = some f20:=by kernel_rfl
@[go_sem] theorem c20 (a w):(callFunc 20 a).run qf w=.ok (.enter 20 a) w:=qh s20 (by kernel_rfl) (by kernel_rfl) a w
@[go_sem] theorem s70:qf.funcs[70]? = some f70:=by kernel_rfl
@[go_sem] theorem c70 (a w):(callFunc 70 a).run qf w=.ok (.enter 70 a) w:=qh s70 (by kernel_rfl) (by kernel_rfl) a w
@[go_sem] theorem s17:qf.funcs[17]? = some f17:=by kernel_rfl
@[go_sem] theorem c17 (a w):(callFunc 17 a).run qf w=.ok (.enter 17 a) w:=qh s17 (by kernel_rfl) (by kernel_rfl) a w
@[go_sem] theorem s8:qf.funcs[8]? = some f8:=by kernel_rfl
@[go_sem] theorem c8 (a w):(callFunc 8 a).run qf w=.ok (.enter 8 a) w:=qh s8 (by kernel_rfl) (by kernel_rfl) a w
@[go_sem] theorem s45:qf.funcs[45]? = some f45:=by kernel_rfl
@[go_sem] theorem c45 (a w):(callFunc 45 a).run qf w=.ok (.enter 45 a) w:=qh s45 (by kernel_rfl) (by kernel_rfl) a w
@[go_sem] theorem s42:qf.funcs[42]? = some f42:=by kernel_rfl
@[go_sem] theorem c42 (a w):(callFunc 42 a).run qf w=.ok (.enter 42 a) w:=qh s42 (by kernel_rfl) (by kernel_rfl) a w
@[go_sem] theorem s10:qf.funcs[10]? = some f10:=by kernel_rfl
@[go_sem] theorem c10 (a w):(callFunc 10 a).run qf w=.ok (.enter 10 a) w:=qh s10 (by kernel_rfl) (by kernel_rfl) a w
@[go_sem] theorem s150:qf.funcs[150]? = some f150:=by kernel_rfl
@[go_sem] theorem c150 (a w):(callFunc 150 a).run qf w=.ok (.enter 150 a) w:=qh s150 (by kernel_rfl) (by kernel_rfl) a w
@[go_sem] theorem s151:qf.funcs[151]? = some f151:=by kernel_rfl
@[go_sem] theorem c151 (a w):(callFunc 151 a).run qf w=.ok (.enter 151 a) w:=qh s151 (by kernel_rfl) (by kernel_rfl) a w
@[go_sem] theorem s152:qf.funcs[152]? = some f152:=by kernel_rfl
@[go_sem] theorem c152 (a w):(callFunc 152 a).run qf w=.ok (.enter 152 a) w:=qh s152 (by kernel_rfl) (by kernel_rfl) a w
@[go_sem] theorem s75:qf.funcs[75]? = some f75:=by kernel_rfl
@[go_sem] theorem c75 (a w):(callFunc 75 a).run qf w=.ok (.enter 75 a) w:=qh s75 (by kernel_rfl) (by kernel_rfl) a w
@[go_sem] theorem s43:qf.funcs[43]? = some f43:=by kernel_rfl
@[go_sem] theorem c43 (a w):(callFunc 43 a).run qf w=.ok (.enter 43 a) w:=qh s43 (by kernel_rfl) (by kernel_rfl) a w
@[go_sem] theorem s56:qf.funcs[56]? = some f56:=by kernel_rfl
@[go_sem] theorem c56 (a w):(callFunc 56 a).run qf w=.ok (.enter 56 a) w:=qh s56 (by kernel_rfl) (by kernel_rfl) a w
@[go_sem] theorem s96:qf.funcs[96]? = some f96:=by kernel_rfl
@[go_sem] theorem c96 (a w):(callFunc 96 a).run qf w=.ok (.enter 96 a) w:=qh s96 (by kernel_rfl) (by kernel_rfl) a w
@[go_sem] theorem s62:qf.funcs[62]? = some f62:=by kernel_rfl
@[go_sem] theorem c62 (a w):(callFunc 62 a).run qf w=.ok (.enter 62 a) w:=qh s62 (by kernel_rfl) (by kernel_rfl) a w
@[go_sem] theorem s66:qf.funcs[66]? = some f66:=by kernel_rfl
@[go_sem] theorem c66 (a w):(callFunc 66 a).run qf w=.ok (.enter 66 a) w:=qh s66 (by kernel_rfl) (by kernel_rfl) a w
@[go_sem] theorem s67:qf.funcs[67]? = some f67:=by kernel_rfl
@[go_sem] theorem c67 (a w):(callFunc 67 a).run qf w=.ok (.enter 67 a) w:=qh s67 (by kernel_rfl) (by kernel_rfl) a w
@[go_sem] theorem s83:qf.funcs[83]? = some f83:=by kernel_rfl
@[go_sem] theorem c83 (a w):(callFunc 83 a).run qf w=.ok (.enter 83 a) w:=qh s83 (by kernel_rfl) (by kernel_rfl) a w
@[go_sem] theorem s76:qf.funcs[76]? = some f76:=by kernel_rfl
@[go_sem] theorem c76 (a w):(callFunc 76 a).run qf w=.ok (.enter 76 a) w:=qh s76 (by kernel_rfl) (by kernel_rfl) a w
@[go_sem] theorem s120:qf.funcs[120]? = some f120:=by kernel_rfl
@[go_sem] theorem c120 (a w):(callFunc 120 a).run qf w=.ok (.enter 120 a) w:=qh s120 (by kernel_rfl) (by kernel_rfl) a w
@[go_sem] theorem s131:qf.funcs[131]? = some f131:=by kernel_rfl
@[go_sem] theorem c131 (a w):(callFunc 131 a).run qf w=.ok (.enter 131 a) w:=qh s131 (by kernel_rfl) (by kernel_rfl) a w
@[go_sem] theorem s69:qf.funcs[69]? = some f69:=by kernel_rfl
@[go_sem] theorem c69 (a w):(callFunc 69 a).run qf w=.ok (.enter 69 a) w:=qh s69 (by kernel_rfl) (by kernel_rfl) a w
@[go_sem] theorem s119:qf.funcs[119]? = some f119:=by kernel_rfl
@[go_sem] theorem c119 (a w):(callFunc 119 a).run qf w=.ok (.enter 119 a) w:=qh s119 (by kernel_rfl) (by kernel_rfl) a w
@[go_sem] theorem s153:qf.funcs[153]? = some f153:=by kernel_rfl
@[go_sem] theorem c153 (a w):(callFunc 153 a).run qf w=.ok (.enter 153 a) w:=qh s153 (by kernel_rfl) (by kernel_rfl) a w
@[go_sem] theorem s158:qf.funcs[158]? = some f158:=by kernel_rfl
@[go_sem] theorem c158 (a w):(callFunc 158 a).run qf w=.ok (.enter 158 a) w:=qh s158 (by kernel_rfl) (by kernel_rfl) a w
@[go_sem] theorem s156:qf.funcs[156]? = some f156:=by kernel_rfl
@[go_sem] theorem c156 (a w):(callFunc 156 a).run qf w=.ok (.enter 156 a) w:=qh s156 (by kernel_rfl) (by kernel_rfl) a w
@[go_sem] theorem s159:qf.funcs[159]? = some f159:=by kernel_rfl
@[go_sem] theorem c159 (a w):(callFunc 159 a).run qf w=.ok (.enter 159 a) w:=qh s159 (by kernel_rfl) (by kernel_rfl) a w
@[go_sem] theorem s154:qf.funcs[154]? = some f154:=by kernel_rfl
@[go_sem] theorem c154 (a w):(callFunc 154 a).run qf w=.ok (.enter 154 a) w:=qh s154 (by kernel_rfl) (by kernel_rfl) a w
@[go_sem] theorem s155:qf.funcs[155]? = some f155:=by kernel_rfl
@[go_sem] theorem c155 (a w):(callFunc 155 a).run qf w=.ok (.enter 155 a) w:=qh s155 (by kernel_rfl) (by kernel_rfl) a w
@[go_sem] theorem s157:qf.funcs[157]? = some f157:=by kernel_rfl
@[go_sem] theorem c157 (a w):(callFunc 157 a).run qf w=.ok (.enter 157 a) w:=qh s157 (by kernel_rfl) (by kernel_rfl) a w
@[go_sem] theorem s44:qf.funcs[44]? = some f44:=by kernel_rfl
@[go_sem] theorem c44 (a w):(callFunc 44 a).run qf w=.ok (.enter 44 a) w:=qh s44 (by kernel_rfl) (by kernel_rfl) a w
@[go_sem] theorem s116:qf.funcs[116]? = some f116:=by kernel_rfl
@[go_sem] theorem c116 (a w):(callFunc 116 a).run qf w=.ok (.enter 116 a) w:=qh s116 (by kernel_rfl) (by kernel_rfl) a w
@[go_sem] theorem s117:qf.funcs[117]? = some f117:=by kernel_rfl
@[go_sem] theorem c117 (a w):(callFunc 117 a).run qf w=.ok (.enter 117 a) w:=qh s117 (by kernel_rfl) (by kernel_rfl) a w
end Go.Proofs.Tryz
namespace Go.Proofs.Tryz
open Go Go.Load Go.RowKit
theorem zX (a b c:Int) (w:World):Calls qf 65 #[.int .i64 a,.int .i64 b,.int .i64 c] w fun e w'=>e=.returned (.bool (btw a b c))∧w=w':=by
 by_cases h1:b≤a
 ·go_enter s65,ntmps65
  go_wp2
  go_ret
  exact ⟨by simp [btw,h1],rfl⟩
 ·go_enter s65,ntmps65
  go_wp2
  go_ret
  exact ⟨by simp [btw];omega,rfl⟩
set_option maxRecDepth 100000 in
theorem jO (a:Int) (w:World):Calls qf 85 #[.int .i64 a] w fun e w'=>e=.returned (.bool (btw a 0 7))∧w=w':=by
 go_enter s85,ntmps85
 go_wp2_with (go_at_call 65;refine (zX _ _ _ _).mono ?_;rintro e w' ⟨rfl,rfl⟩)
 go_ret
 exact ⟨rfl,rfl⟩
theorem Qe (a b:Int) (w:World) (ha:0≤a) (hb:0 < b) (ha2:a < 4611686018427387904) (hb2:b < 4611686018427387904) :
 Calls qf 93 #[.int .i64 a,.int .i64 b] w fun e w'=>e=.returned (.agg #[.int .i64 (lowT a b),.int .i64 (lowB a b)])∧Below w.heap.size w w':=by
 go_enter s93,ntmps93
 go_wp2
 go_loopw [5,6] (fun x y wr=>∃(p q:Int) (k:Nat),0≤p∧0≤q∧p < 4611686018427387904∧q < 4611686018427387904∧0 < p+q∧Hid (Int.gcd p q=Int.gcd a b)∧x=.int .i64 p∧y=.int .i64 q∧wr=(w.alloc (.cells #[.int .i64 0,.int .i64 0] 72)).drewN k) (fun _ y _=>(intOf y).toNat)
 case atStart=>exact ⟨a,b,0,ha,by omega,ha2,hb2,by omega,Lib.hid rfl,rfl,rfl,rfl⟩
 case round =>
  obtain ⟨p,q,k,hp,hq,hp2,hq2,hpq,HG,rfl,rfl,rfl⟩:=hrel
  by_cases h0:0 < q
  ·have h1:(q != 0)=true:=by rw [bne_iff_ne];omega
   have hm:=Int.emod_nonneg p (show q≠0 by omega)
   have hm2:=Int.emod_lt_of_pos p h0
   go_wp2
   go_quiet (fail)
   go_wp2
   go_roundw
   case rel=>exact ⟨q,p % q,_,by omega,by omega,by omega,by omega,by omega,Lib.hid ((gcd_step p q hp h0).trans HG.out),rfl,rfl,World.drewN_drewN ..⟩
   case measure=>simp [intOf];omega
  ·obtain rfl:q=0:=by omega
   have hp0:0 < p:=by omega
   go_wp2
   have d1:=Int.ediv_nonneg ha (Int.le_of_lt hp0)
   have d2:=Int.ediv_le_self p ha
   have d3:=Int.ediv_nonneg (Int.le_of_lt hb) (Int.le_of_lt hp0)
   have d4:=Int.ediv_le_self p (Int.le_of_lt hb)
   have hpe:(p == 0)=false:=by rw [beq_eq_false_iff_ne];omega
   go_region
   go_wp2
   go_returns
   have hg:((Int.gcd a b:Nat):Int)=p:=by rw [← HG.out];exact gcd_zero p hp
   refine ⟨by rw [lowT,lowB,hg],?_⟩
   go_grown
   exact below_drewN ((Below.refl _ w).alloc (Nat.le_refl _) _) _
theorem zT (w:World):(isAgg 72).run qf w=.ok true w:=(zB _ _).trans (Tryz.isAgg72 w)
theorem zF (w:World):(Go.sizeOf 72).run qf w=.ok 2 w:=(yh _ _).trans (Tryz.sizeOf72 w)
theorem zl (w:World):(isAgg 23).run qf w=.ok true w:=(zB _ _).trans (Tryz.isAgg23 w)
theorem qW (w:World):(Go.sizeOf 23).run qf w=.ok 2 w:=(yh _ _).trans (Tryz.sizeOf23 w)
def fv (x:Int×Int):Value:=.agg #[.int .i64 x.1,.int .i64 x.2]
theorem YF (x:Int×Int) (w:World) (ha:0≤x.1) (hb:0 < x.2) (ha2:x.1 < 4611686018427387904) (hb2:x.2 < 4611686018427387904) :
 Calls qf 46 #[fv x] w fun e w'=>e=.returned (fv (low x.1 x.2))∧Below w.heap.size w w':=by
 obtain ⟨a,b⟩:=x
 simp only [fv] at *
 go_enter s46,ntmps46
 go_wp2_with (go_at_call 93;refine (Qe a b _ ha hb ha2 hb2).mono ?_;rintro e w1 ⟨rfl,hB⟩;have c0:=qb ⟨w.heap.size+1,0,none⟩ hB (v:=.int .i64 0) (by go_cell);have c1:=qb ⟨w.heap.size+1,1,none⟩ hB (v:=.int .i64 0) (by go_cell);have f0:=qg ⟨w.heap.size+1,0,none⟩ hB (v:=.int .i64 0) (by go_cell) (by go_cell);have f1:=qg ⟨w.heap.size+1,1,none⟩ hB (v:=.int .i64 0) (by go_cell) (by go_cell))
 refine yU results46 zT zF rfl c0 c1 ⟨rfl,?_⟩
 exact ((bcl (by go_grown) hB).setCell (by simp <;> omega) _).setCell (by simp <;> omega) _
theorem qap (x y:Int×Int) (w:World) (h1:0≤x.1) (h2:0 < x.2) (h3:0≤y.1) (h4:0 < y.2) (h5:x.1 * y.1 < 4611686018427387904) (h6:x.2 * y.2 < 4611686018427387904) :
 Calls qf 125 #[fv x,fv y] w fun e w'=>e=.returned (fv (low (x.1 * y.1) (x.2 * y.2)))∧Below w.heap.size w w':=by
 obtain ⟨a,b⟩:=x
 obtain ⟨c,d⟩:=y
 simp only [fv] at *
 have m1:=Int.mul_nonneg h1 h3
 have m2:=Int.mul_pos h2 h4
 go_enter s125,ntmps125
 go_wp2_with (go_at_call 93;refine (Qe (a * c) (b * d) _ m1 m2 h5 h6).mono ?_;rintro e w1 ⟨rfl,hB⟩;have c0:=qb ⟨w.heap.size+2,0,none⟩ hB (v:=.int .i64 0) (by go_cell);have c1:=qb ⟨w.heap.size+2,1,none⟩ hB (v:=.int .i64 0) (by go_cell);have f0:=qg ⟨w.heap.size+2,0,none⟩ hB (v:=.int .i64 0) (by go_cell) (by go_cell);have f1:=qg ⟨w.heap.size+2,1,none⟩ hB (v:=.int .i64 0) (by go_cell) (by go_cell))
 refine yU results125 zT zF rfl c0 c1 ⟨rfl,?_⟩
 exact ((bcl (by go_grown) hB).setCell (by simp <;> omega) _).setCell (by simp <;> omega) _
theorem qaa (x y:Int×Int) (w:World) (h1:0≤x.1) (h2:0 < x.2) (h3:0≤y.1) (h4:0 < y.2) (h5:x.1 * y.2 < 4611686018427387904) (h6:x.2 * y.2 < 4611686018427387904) (h7:y.1 * x.2≤x.1 * y.2) :
 Calls qf 90 #[fv x,fv y] w fun e w'=>e=.returned (fv (low (x.1 * y.2 - y.1 * x.2) (x.2 * y.2)))∧Below w.heap.size w w':=by
 obtain ⟨a,b⟩:=x
 obtain ⟨c,d⟩:=y
 simp only [fv] at *
 have m1:=Int.mul_nonneg h1 (Int.le_of_lt h4)
 have m2:=Int.mul_pos h2 h4
 have m3:=Int.mul_nonneg h3 (Int.le_of_lt h2)
 go_enter s90,ntmps90
 go_wp2_with (go_at_call 93;refine (Qe (a * d - c * b) (b * d) _ (by omega) m2 (by omega) h6).mono ?_;rintro e w1 ⟨rfl,hB⟩;have c0:=qb ⟨w.heap.size+2,0,none⟩ hB (v:=.int .i64 0) (by go_cell);have c1:=qb ⟨w.heap.size+2,1,none⟩ hB (v:=.int .i64 0) (by go_cell);have f0:=qg ⟨w.heap.size+2,0,none⟩ hB (v:=.int .i64 0) (by go_cell) (by go_cell);have f1:=qg ⟨w.heap.size+2,1,none⟩ hB (v:=.int .i64 0) (by go_cell) (by go_cell))
 refine yU results90 zT zF rfl c0 c1 ⟨rfl,?_⟩
 exact ((bcl (by go_grown) hB).setCell (by simp <;> omega) _).setCell (by simp <;> omega) _
theorem Zx (x:Int×Int) (w:World):Calls qf 77 #[fv x] w fun e w'=>e=.returned (fv x)∧Below w.heap.size w w':=by
 obtain ⟨a,b⟩:=x
 simp only [fv] at *
 go_enter s77,ntmps77
 go_wp2
 go_returns
 refine ⟨rfl,?_⟩
 go_grown
end Go.Proofs.Tryz
section
namespace Go.Proofs.Tryz
open Go Go.Load Go.RowKit Go.Shelf
attribute [local go_sem] Oper.semAt_some
def QG (ab n₀:Nat) (A B:World):Prop:=A.heap.size≤B.heap.size∧∀b,(b=ab∨n₀≤b)→b < A.heap.size→B.heap[b]? = A.heap[b]?
theorem QG.cell {ab n₀:Nat} {A B:World} (h:QG ab n₀ A B) {p:Addr} {v:Value} (hb:p.block=ab∨n₀≤p.block) (hc:A.cell? p=some v):B.cell? p=some v :=
 (World.cell?_of_block (w:=A) (h.2 _ hb (lt_of_cell hc))).trans hc
theorem QG.frozen {ab n₀:Nat} {A B:World} (h:QG ab n₀ A B) {p:Addr} {v:Value} (hb:p.block=ab∨n₀≤p.block) (hc:A.cell? p=some v) (hf:A.frozen? p=false):B.frozen? p=false :=
 (World.frozen?_of_block (w:=A) (h.2 _ hb (lt_of_cell hc))).trans hf
set_option maxRecDepth 100000 in
set_option maxHeartbeats 400000 in
theorem qba (l T:Nat) (x:Int×Int) (h1:0≤x.1) (h2:x.1≤12) (h3:1≤x.2) (h4:x.2≤4) (hT:T≤7) (ab:Nat) (J:Nat→World→Prop) (Jx:World→Prop) (n:Nat) (W:World)
 (a0:W.cell? ⟨ab,0,none⟩=some (.int .i64 x.1)) (a1:W.cell? ⟨ab,1,none⟩=some (.int .i64 x.2))
 (hJ:∀k A B,J k A→W.heap.size≤A.heap.size→Below W.heap.size A B→J k B)
 (hY:∀k A,k≤T→J k A→W.heap.size≤A.heap.size→YieldAt Fence.wide (n - 1) qf l #[.int .i64 k,fv (qQ x k)] A fun e B =>
   (e=.returned (.bool true)∧k < T∧J (k+1) B∧QG ab W.heap.size A B)∨(e=.returned (.bool false)∧Jx B))
 (h0:J 0 W) :
 CallsIn Fence.wide n qf 133 #[.func (.yield l) #[] #[],.pointer (some ⟨ab,0,none⟩)] W fun e W'=>(∃v,e=.returned v)∧Jx W':=by
 refine callsIn_of_wp s133 rfl trivial ?_
 simp only [Tryz.ntmps133,List.size_toArray,List.length_cons,List.length_nil,Nat.reduceAdd,Nat.reduceSub,Array.replicate_succ,Array.replicate_zero,List.push_toArray,List.append_toArray,List.nil_append,List.cons_append]
 gi_wp2
 gi_loopw [4] (fun i wr=>∃k:Nat,i=.int .i64 k∧k≤T∧J k wr∧wr.cell? ⟨W.heap.size,0,none⟩=some (.int .i64 (qQ x k).1)∧wr.cell? ⟨W.heap.size,1,none⟩=some (.int .i64 (qQ x k).2) ∧
  wr.frozen? ⟨W.heap.size,0,none⟩=false∧wr.frozen? ⟨W.heap.size,1,none⟩=false∧wr.cell? ⟨ab,0,none⟩=some (.int .i64 x.1)∧wr.cell? ⟨ab,1,none⟩=some (.int .i64 x.2)∧W.heap.size+1≤wr.heap.size)
  (fun i _=>T - (intOf i).toNat)
 case atStart =>
  have hBe:Below W.heap.size W (W.alloc (.cells #[.int .i64 1,.int .i64 1] 72)):=by go_grown
  exact ⟨0,rfl,Nat.zero_le _,hJ _ _ _ h0 (Nat.le_refl _) hBe,by show _=some (Value.int .i64 1);go_cell,by show _=some (Value.int .i64 1);go_cell,by go_cell,by go_cell,qb _ hBe a0,qb _ hBe a1,by simp⟩
 case round =>
  obtain ⟨k,rfl,hk,hj,c0,c1,f0,f1,b0,b1,hsz⟩:=hrel
  obtain ⟨fn,tmps,assign,body,hy,hR⟩:=hY k wr hk hj (by omega)
  dsimp only [fv] at hy
  gi_wp2
  refine ⟨fun h=>(by cases h),hR.mono ?_⟩
  rintro e W3 (⟨rfl,hlt,hj3,hk3⟩ | ⟨rfl,hx⟩)
  ·have d0:=hk3.cell (p:=⟨W.heap.size,0,none⟩) (.inr (Nat.le_refl _)) c0
   have d1:=hk3.cell (p:=⟨W.heap.size,1,none⟩) (.inr (Nat.le_refl _)) c1
   have g0:=hk3.frozen (p:=⟨W.heap.size,0,none⟩) (.inr (Nat.le_refl _)) c0 f0
   have g1:=hk3.frozen (p:=⟨W.heap.size,1,none⟩) (.inr (Nat.le_refl _)) c1 f1
   have e0:=hk3.cell (p:=⟨ab,0,none⟩) (.inl rfl) b0
   have e1:=hk3.cell (p:=⟨ab,1,none⟩) (.inl rfl) b1
   have hs3:=hk3.1
   clear hy hR c0 c1 f0 f1 b0 b1 hk3 hj
   have hb:=xW h1 h2 h3 h4 k (by omega)
   have hnx:qQ x (k+1)=low (low (x.1 * (qQ x k).1) (x.2 * (qQ x k).2)).1 ((k+1) * (low (x.1 * (qQ x k).1) (x.2 * (qQ x k).2)).2+(low (x.1 * (qQ x k).1) (x.2 * (qQ x k).2)).1):=rfl
   have hp:(40:Int) ^ k≤40 ^ 6:=by
    have:k≤6:=by omega
    exact_mod_cast Nat.pow_le_pow_right (by decide) this
   revert hnx hb d0 d1
   generalize qQ x k=q
   intro d0 d1 hb hnx
   obtain ⟨q1,q2,q3,q4⟩:=hb
   have q5:q.2≤4096000000:=Int.le_trans q4 (Int.le_trans hp (by decide))
   have m1:0≤x.1 * q.1:=Int.mul_nonneg h1 q1
   have m2:x.1 * q.1≤12 * q.2:=Int.le_trans (Int.mul_le_mul_of_nonneg_right h2 q1) (by omega)
   have m3:x.2 * q.2≤4 * q.2:=Int.mul_le_mul_of_nonneg_right h4 (by omega)
   have m4:0 < x.2 * q.2:=Int.mul_pos (by omega) (by omega)
   obtain ⟨t1,t2,t3,t4,_⟩:=xw m1 m4
   obtain ⟨t,ht⟩:∃t,low (x.1 * q.1) (x.2 * q.2)=t:=⟨_,rfl⟩
   have htimes:∀W',Calls qf 125 #[.agg #[.int .i64 x.1,.int .i64 x.2],.agg #[.int .i64 q.1,.int .i64 q.2]] W' fun e w'=>e=.returned (.agg #[.int .i64 t.1,.int .i64 t.2])∧Below W'.heap.size W' w':=fun W'=>by
    have:=qap x q W' h1 (by omega) q1 (by omega) (by omega) (by omega)
    rw [ht] at this
    exact this
   rw [ht] at hnx t1 t2 t3 t4
   have n1:((k:Int)+1) * t.2≤7 * t.2:=Int.mul_le_mul_of_nonneg_right (by omega) (by omega)
   have n2:0 < ((k:Int)+1) * t.2:=Int.mul_pos (by omega) (by omega)
   have hlow:=fun W'=>Qe t.1 (((k:Int)+1) * t.2+t.1) W' t1 (by omega) (by omega) (by omega)
   have t5:t.2≤16384000000:=by omega
   have t6:t.1≤49152000000:=by omega
   clear m1 m2 m3 m4 hp q4
   gi_wp2_with fail
   refine ⟨trivial,(fun h=>(by cases h)),?_⟩
   gi_at_call 125
   refine (callsIn_wide.2 (htimes _)).mono ?_
   rintro e w4 ⟨rfl,hB⟩
   have g0:=qg ⟨W.heap.size,0,none⟩ hB d0 g0
   have g1:=qg ⟨W.heap.size,1,none⟩ hB d1 g1
   have d0:=qb _ hB d0
   have d1:=qb _ hB d1
   gi_wp2_with fail
   refine ⟨trivial,(fun h=>(by cases h)),?_⟩
   gi_at_call 93
   refine (callsIn_wide.2 (hlow _)).mono ?_
   rintro e w5 ⟨rfl,hC⟩
   have hs4:=hB.size
   have hC':Below w4.heap.size w4 w5:=bcl ((Below.refl _ w4).alloc (Nat.le_refl _) _) hC
   have hs5:=hC'.size
   have g0:=qg ⟨W.heap.size,0,none⟩ hC' d0 g0
   have g1:=qg ⟨W.heap.size,1,none⟩ hC' d1 g1
   have d0:=qb ⟨W.heap.size,0,none⟩ hC' d0
   have d1:=qb ⟨W.heap.size,1,none⟩ hC' d1
   have hfin:∀u v,Below W.heap.size W3 ((w5.setCell ⟨W.heap.size,0,none⟩ u).setCell ⟨W.heap.size,1,none⟩ v):=fun u v =>
    (((hB.mono (B':=W.heap.size) (by omega)).trans (hC'.mono (B':=W.heap.size) (by omega))).setCell (p:=⟨W.heap.size,0,none⟩) (Nat.le_refl _) _).setCell (p:=⟨W.heap.size,1,none⟩) (Nat.le_refl _) _
   have hab:ab < W.heap.size:=lt_of_cell a0
   clear hB hC hC' htimes hlow
   gi_wp2
   go_roundw
   case rel =>
    refine ⟨k+1,rfl,by omega,hJ _ _ _ hj3 (by omega) (hfin _ _),?_,?_,by rw [World.frozen?_setCell,World.frozen?_setCell];exact g0,by rw [World.frozen?_setCell,World.frozen?_setCell];exact g1,((hfin _ _).cell (p:=⟨ab,0,none⟩) hab).trans e0,((hfin _ _).cell (p:=⟨ab,1,none⟩) hab).trans e1,by simp;omega⟩
    ·rw [hnx];exact (ZP _ _ d0 d1).1
    ·rw [hnx];exact (ZP _ _ d0 d1).2
   case measure=>simp [intOf];omega
  ·gi_wp2
   go_end0
   exact ⟨⟨_,rfl⟩,hx⟩
end Go.Proofs.Tryz
end
section
namespace Go.Proofs.Tryz
open Go Go.Load Go.RowKit Go.Shelf
attribute [local go_sem] Oper.semAt_some
theorem qcT (x:Int×Int) (w:World):Calls qf 124 #[fv x] w fun e w'=>e=.returned (.func (.func 133) #[] #[.pointer (some ⟨w.heap.size,0,none⟩)])∧w'=w.alloc (.cells #[.int .i64 x.1,.int .i64 x.2] 72):=by
 simp only [fv]
 go_enter s124,ntmps124
 go_wp2
 go_ret
 exact ⟨rfl,rfl⟩
noncomputable def YB:Code:=match Tryz.f87.body with | some (.seq _ (.seq _ (.seq (.seq _ (.block _ c)) _)))=>c | _=>.skip
noncomputable def Zh:Code:=match YB with | .rangeFunc _ _ a _=>a | _=>.skip
noncomputable def Jc:Code:=match YB with | .rangeFunc _ _ _ b=>b | _=>.skip
set_option maxRecDepth 100000 in
set_option maxHeartbeats 1000000 in
theorem Zi (T:Nat) (x:Int×Int) (h1:0≤x.1) (h2:x.1≤12) (h3:1≤x.2) (h4:x.2≤4) (hT:T≤7) (w:World) :
 Calls qf 87 #[fv x,.int .i64 T] w fun e w'=>e=.returned (fv (qQ x T))∧Below w.heap.size w w':=by
 refine (callsIn_wide (n:=3)).1 ?_
 refine callsIn_of_wp_marks s87 rfl trivial ?_
 simp only [fv,Tryz.ntmps87,List.size_toArray,List.length_cons,List.length_nil,Nat.reduceAdd,Nat.reduceSub,Array.replicate_succ,Array.replicate_zero,List.push_toArray,List.append_toArray,List.nil_append,List.cons_append]
 gi_wp2_with (refine ⟨trivial,?_⟩;gi_at_call 124;refine (callsIn_wide.2 (qcT x _)).mono ?_;rintro e w' ⟨rfl,rfl⟩)
 obtain ⟨W,hW⟩:∃W,((((w.alloc (Obj.cells #[Value.int .i64 x.1,Value.int .i64 x.2] 72)).alloc (Obj.cells #[Value.int .i64 T] 3)).alloc (Obj.cells #[Value.int .i64 0,Value.int .i64 0] 72)).alloc (Obj.cells #[Value.int .i64 0,Value.int .i64 0] 72)).alloc (Obj.cells #[Value.int .i64 x.1,Value.int .i64 x.2] 72)=W:=⟨_,rfl⟩
 have hsz:W.heap.size=w.heap.size+5:=by subst hW;simp
 have hBW:Below w.heap.size w W:=by subst hW;go_grown
 have hcT:W.cell? ⟨w.heap.size+1,0,none⟩=some (.int .i64 T):=by subst hW;clear hsz;go_cell
 have hr0:W.cell? ⟨w.heap.size+2,0,none⟩=some (.int .i64 0):=by subst hW;clear hsz;go_cell
 have hr1:W.cell? ⟨w.heap.size+2,1,none⟩=some (.int .i64 0):=by subst hW;clear hsz;go_cell
 have hs0:W.frozen? ⟨w.heap.size+2,0,none⟩=false:=by subst hW;clear hsz;go_cell
 have hs1:W.frozen? ⟨w.heap.size+2,1,none⟩=false:=by subst hW;clear hsz;go_cell
 have hf0:W.cell? ⟨w.heap.size+3,0,none⟩=some (.int .i64 0):=by subst hW;clear hsz;go_cell
 have hf1:W.cell? ⟨w.heap.size+3,1,none⟩=some (.int .i64 0):=by subst hW;clear hsz;go_cell
 have hg0:W.frozen? ⟨w.heap.size+3,0,none⟩=false:=by subst hW;clear hsz;go_cell
 have hg1:W.frozen? ⟨w.heap.size+3,1,none⟩=false:=by subst hW;clear hsz;go_cell
 have ha0:W.cell? ⟨w.heap.size+4,0,none⟩=some (.int .i64 x.1):=by subst hW;clear hsz;go_cell
 have ha1:W.cell? ⟨w.heap.size+4,1,none⟩=some (.int .i64 x.2):=by subst hW;clear hsz;go_cell
 rw [hW]
 clear hW
 refine wpIn_rangeFunc ?_
 intro fn hfn
 obtain ⟨rec,hrec⟩:∃rec:LoopState→Option Code→Loop,rec=fun st pe=>{ state:=st,pending:=pe,fn,tmps:=#[Value.agg #[Value.int .i64 x.1,Value.int .i64 x.2],Value.int .i64 T,Value.pointer (some ⟨w.heap.size,0,none⟩),Value.pointer (some ⟨w.heap.size+1,0,none⟩),Value.pointer (some ⟨w.heap.size+1+1,0,none⟩),Value.pointer (some ⟨w.heap.size+1+1+1,0,none⟩),undef,undef,
  Value.agg #[Value.int .i64 x.1,Value.int .i64 x.2],Value.func (.func 133) #[] #[.pointer (some ⟨w.heap.size+1+1+1+1,0,none⟩)],undef,undef,undef,undef,undef,undef,undef],params:=#[10,11],assign:=Zh,body:=Jc,defers:=W.heap.size }:=⟨_,rfl⟩
 obtain ⟨W1,hW1⟩:∃W1,(W.alloc (.deferred (some []))).alloc (.loop (rec .ready none))=W1:=⟨_,rfl⟩
 have hL1:W1.heap[W.heap.size+1]? = some (.loop (rec .ready none)):=by
  rw [← hW1];have:=World.alloc_heap_new (W.alloc (.deferred (some []))) (.loop (rec .ready none));rwa [World.size_alloc] at this
 have hK1:W1.heap[W.heap.size]? = some (.deferred (some [])):=by
  rw [← hW1];exact (Below.heap_alloc _ _ _ (by simp)).trans (World.alloc_heap_new W _)
 have hB1:Below W.heap.size W W1:=by rw [← hW1];exact ((Below.refl _ W).alloc (Nat.le_refl _) _).alloc (by simp) _
 have hsz1:W1.heap.size=W.heap.size+2:=by rw [← hW1];simp
 refine ⟨W.heap.size+1,[{ target:=.collected W.heap.size,args:=#[] }],W1,{ target:=.fn (.func 133) #[.pointer (some ⟨w.heap.size+4,0,none⟩)],args:=#[.func (.yield (W.heap.size+1)) #[] #[]] },W1,133,
  #[.func (.yield (W.heap.size+1)) #[] #[]] ++ #[.pointer (some ⟨w.heap.size+4,0,none⟩)],W1,?_,?_,fun _ _=>trivial,?_,fun h=>(by cases h),?_⟩
 ·rw [← hW1,hrec];exact run_enterLoop_outer _ _ _ _ _
 ·simp [resolve,go_sem]
 ·simp [invoke,go_sem,c133]
 ·refine (qba (W.heap.size+1) T x h1 h2 h3 h4 hT (w.heap.size+4)
   (fun k A=>k≤T∧A.heap[W.heap.size+1]? = some (.loop (rec .ready none))∧A.heap[W.heap.size]? = some (.deferred (some []))∧Below W.heap.size W A)
   (fun B=>B.heap[W.heap.size+1]? = some (.loop (rec .done (some (.exit 0))))∧B.heap[W.heap.size]? = some (.deferred (some []))∧Below w.heap.size w B ∧
     B.cell? ⟨w.heap.size+3,0,none⟩=some (.int .i64 (qQ x T).1)∧B.cell? ⟨w.heap.size+3,1,none⟩=some (.int .i64 (qQ x T).2) ∧
     B.cell? ⟨w.heap.size+2,0,none⟩=some (.int .i64 0)∧B.cell? ⟨w.heap.size+2,1,none⟩=some (.int .i64 0)∧B.frozen? ⟨w.heap.size+2,0,none⟩=false∧B.frozen? ⟨w.heap.size+2,1,none⟩=false)
   2 W1 (qb _ hB1 ha0) (qb _ hB1 ha1) ?_ ?_ ⟨Nat.zero_le _,hL1,hK1,hB1⟩).mono ?_
  ·rintro k A B ⟨j1,j2,j3,j4⟩ hs hb
   exact ⟨j1,(hb.block _ (by omega)).trans j2,(hb.block _ (by omega)).trans j3,j4.trans (hb.mono (by omega))⟩
  ·rintro k A hk ⟨_,hl,hd,hb⟩ hs
   have hy:=run_yield (P:=qf) (args:=#[.int .i64 k,fv (qQ x k)]) hl (by rw [hrec];rfl)
   rw [hrec] at hy
   refine ⟨fn,_,Zh,Jc,hy,roundIn_of_wpIn hfn ?_⟩
   clear hy
   simp only [fv]
   unfold Zh Jc YB Tryz.f87
   dsimp only
   gi_wp2
   obtain ⟨A2,hA2⟩:∃A2,A.alloc (Obj.cells #[Value.int .i64 (qQ x k).1,Value.int .i64 (qQ x k).2] 72)=A2:=⟨_,rfl⟩
   have hlA:W.heap.size+1 < A.heap.size:=(Array.getElem?_eq_some_iff.1 hl).1
   have hB2:Below A.heap.size A A2:=by subst hA2;exact (Below.refl _ A).alloc (Nat.le_refl _) _
   have hn0:A2.cell? ⟨A.heap.size,0,none⟩=some (.int .i64 (qQ x k).1):=by subst hA2;go_cell
   have hn1:A2.cell? ⟨A.heap.size,1,none⟩=some (.int .i64 (qQ x k).2):=by subst hA2;go_cell
   have hsz2:A2.heap.size=A.heap.size+1:=by subst hA2;simp
   rw [hA2]
   clear hA2
   have hl2:=(hB2.block _ hlA).trans hl
   have hd2:=(hB2.block _ (by omega)).trans hd
   refine ⟨_,run_beginRound hl2 (by rw [hrec]),?_⟩
   obtain ⟨A3,hA3⟩:∃A3,A2.putObj (W.heap.size+1) (.loop { rec .ready none with state:=.busy })=A3:=⟨_,rfl⟩
   have ho3:∀b,b≠W.heap.size+1→A3.heap[b]? = A2.heap[b]? := fun b hb=>by rw [← hA3];exact World.putObj_heap_other hb
   have hl3:A3.heap[W.heap.size+1]? = some (.loop { rec .ready none with state:=.busy }):=by rw [← hA3];exact World.putObj_heap_same (by omega)
   have hsz3:A3.heap.size=A2.heap.size:=by rw [← hA3];simp [World.putObj]
   have hB3:Below W.heap.size W A3:=by
    rw [← hA3]
    exact (hb.trans (hB2.mono (by omega))).grown (grownBy_putObj' A2 (W.heap.size+1) _) (by omega) (fun k e=>by cases e;omega)
   rw [hA3]
   clear hA3
   have m0:=(World.cell?_of_block (w:=A2) (ho3 A.heap.size (by omega)):A3.cell? ⟨A.heap.size,0,none⟩=_).trans hn0
   have m1:=(World.cell?_of_block (w:=A2) (ho3 A.heap.size (by omega)):A3.cell? ⟨A.heap.size,1,none⟩=_).trans hn1
   have cT:=qb _ hB3 hcT
   have cf0:=qb _ hB3 hf0
   have cf1:=qb _ hB3 hf1
   have cg0:=qg _ hB3 hf0 hg0
   have cg1:=qg _ hB3 hf1 hg1
   have HZ:=Lib.hid hsz
   have HR:=Lib.hid hrec
   clear hsz hrec
   by_cases hkT:k=T
   ·have hkk:((k:Int) == (T:Int))=true:=by rw [hkT];simp
    gi_wp2
    have hsz:=HZ.out
    have hrec:=HR.out
    obtain ⟨B,hB⟩:∃B,(A3.setCell ⟨w.heap.size+1+1+1,0,none⟩ (.int .i64 (qQ x T).1)).setCell ⟨w.heap.size+1+1+1,1,none⟩ (.int .i64 (qQ x T).2)=B:=⟨_,rfl⟩
    have hoB:∀b,b≠w.heap.size+3→B.heap[b]? = A3.heap[b]? := fun b hb=>by
     rw [← hB];exact (Below.heap_setCell _ _ _ _ hb).trans (Below.heap_setCell _ _ _ _ hb)
    have hBB:Below w.heap.size w B:=by
     rw [← hB];exact ((hBW.trans (hB3.mono (by omega))).setCell (p:=⟨w.heap.size+3,0,none⟩) (by show _≤_+3;omega) _).setCell (p:=⟨w.heap.size+3,1,none⟩) (by show _≤_+3;omega) _
    have hp:=ZP (.int .i64 (qQ x T).1) (.int .i64 (qQ x T).2) cf0 cf1
    rw [show (w.heap.size+3)=w.heap.size+1+1+1 from rfl,hB] at hp
    have hzB:A3.heap.size≤B.heap.size:=by rw [← hB];simp [World.setCell]
    rw [hB]
    have hl4:=(hoB _ (by omega)).trans hl3
    have hd4:=(hoB W.heap.size (by omega)).trans ((ho3 _ (by omega)).trans hd2)
    refine ⟨_,_,run_endRound (some (.exit 0)) hl4,⟨rfl,?_,?_,?_,?_,?_,?_,?_,?_,?_⟩⟩
    ·rw [World.putObj_heap_same (by omega),hrec];rfl
    ·rw [World.putObj_heap_other (by omega)];exact hd4
    ·exact hBB.grown (grownBy_putObj' B _ _) (by omega) (fun k e=>by cases e;omega)
    ·exact (World.cell?_of_block (w:=B) (World.putObj_heap_other (by show _+3≠_;omega))).trans hp.1
    ·exact (World.cell?_of_block (w:=B) (World.putObj_heap_other (by show _+3≠_;omega))).trans hp.2
    ·exact (World.cell?_of_block (w:=B) (World.putObj_heap_other (by show _+2≠_;omega))).trans ((World.cell?_of_block (w:=A3) (hoB (w.heap.size+2) (by omega)):B.cell? ⟨w.heap.size+2,0,none⟩=_).trans (qb _ hB3 hr0))
    ·exact (World.cell?_of_block (w:=B) (World.putObj_heap_other (by show _+2≠_;omega))).trans ((World.cell?_of_block (w:=A3) (hoB (w.heap.size+2) (by omega)):B.cell? ⟨w.heap.size+2,1,none⟩=_).trans (qb _ hB3 hr1))
    ·exact (World.frozen?_of_block (w:=B) (World.putObj_heap_other (by show _+2≠_;omega))).trans ((World.frozen?_of_block (w:=A3) (hoB (w.heap.size+2) (by omega)):B.frozen? ⟨w.heap.size+2,0,none⟩=_).trans (qg _ hB3 hr0 hs0))
    ·exact (World.frozen?_of_block (w:=B) (World.putObj_heap_other (by show _+2≠_;omega))).trans ((World.frozen?_of_block (w:=A3) (hoB (w.heap.size+2) (by omega)):B.frozen? ⟨w.heap.size+2,1,none⟩=_).trans (qg _ hB3 hr1 hs1))
   ·have hkk:((k:Int) == (T:Int))=false:=by rw [beq_eq_false_iff_ne];omega
    gi_wp2
    have hsz:=HZ.out
    have hrec:=HR.out
    refine ⟨_,_,run_endRound none hl3,.inl ⟨rfl,by omega,⟨by omega,?_,?_,?_⟩,?_,?_⟩⟩
    ·rw [World.putObj_heap_same (by omega),hrec];rfl
    ·rw [World.putObj_heap_other (by omega)];exact (ho3 _ (by omega)).trans hd2
    ·exact hB3.grown (grownBy_putObj' A3 _ _) (by omega) (fun k e=>by cases e;omega)
    ·simp [World.putObj];omega
    ·intro b hb hlt
     rw [World.putObj_heap_other (by omega),ho3 b (by omega)]
     exact hB2.block b hlt
  ·rintro e B ⟨⟨v,rfl⟩,x1,x2,x3,x4,x5,x6,x7,x8,x9⟩
   have HZ:=Lib.hid hsz
   obtain ⟨B4,hB4⟩:∃B4,B.putObj (W.heap.size+1) (.loop { rec .done (some (.exit 0)) with state:=.exhausted })=B4:=⟨_,rfl⟩
   refine ⟨some (.exit 0),B4,by rw [← hB4];have:=run_endLoop (P:=qf) x1 (by rw [hrec];simp);rw [hrec] at this ⊢;exact this,?_⟩
   have ho:∀b,b≠W.heap.size+1→B4.heap[b]? = B.heap[b]? := fun b hb=>by rw [← hB4];exact World.putObj_heap_other hb
   have hsB:W.heap.size+1 < B.heap.size:=(Array.getElem?_eq_some_iff.1 x1).1
   have hBB:Below w.heap.size w B4:=by rw [← hB4];exact x3.grown (grownBy_putObj' B _ _) (by omega) (fun k e=>by cases e;omega)
   have hK:=(ho W.heap.size (by omega)).trans x2
   have k0:=(World.cell?_of_block (w:=B) (ho (w.heap.size+3) (by omega)):B4.cell? ⟨w.heap.size+3,0,none⟩=_).trans x4
   have k1:=(World.cell?_of_block (w:=B) (ho (w.heap.size+3) (by omega)):B4.cell? ⟨w.heap.size+3,1,none⟩=_).trans x5
   have c0:=(World.cell?_of_block (w:=B) (ho (w.heap.size+2) (by omega)):B4.cell? ⟨w.heap.size+2,0,none⟩=_).trans x6
   have c1:=(World.cell?_of_block (w:=B) (ho (w.heap.size+2) (by omega)):B4.cell? ⟨w.heap.size+2,1,none⟩=_).trans x7
   have f0:=(World.frozen?_of_block (w:=B) (ho (w.heap.size+2) (by omega)):B4.frozen? ⟨w.heap.size+2,0,none⟩=_).trans x8
   have f1:=(World.frozen?_of_block (w:=B) (ho (w.heap.size+2) (by omega)):B4.frozen? ⟨w.heap.size+2,1,none⟩=_).trans x9
   clear hB4 hB1 hL1 hK1 hW1 hsz hsz1 hrec x1 x2 x3 x4 x5 x6 x7 x8 x9 hcT hr0 hr1 hs0 hs1 hf0 hf1 hg0 hg1 ha0 ha1 ho
   show Code.wpIn Fence.wide 3 qf (.exit 0) _ _ B4
   gi_wp2
   have hsz:=HZ.out
   have hp:=ZP (.int .i64 (qQ x T).1) (.int .i64 (qQ x T).2) c0 c1
   obtain ⟨C,hC⟩:∃C,(B4.setCell ⟨w.heap.size+1+1,0,none⟩ (.int .i64 (qQ x T).1)).setCell ⟨w.heap.size+1+1,1,none⟩ (.int .i64 (qQ x T).2)=C:=⟨_,rfl⟩
   rw [show (w.heap.size+2)=w.heap.size+1+1 from rfl,hC] at hp
   have hKC:C.heap[W.heap.size]? = some (.deferred (some [])):=by
    rw [← hC];exact (Below.heap_setCell _ _ _ _ (by show _≠w.heap.size+1+1;omega)).trans ((Below.heap_setCell _ _ _ _ (by show _≠w.heap.size+1+1;omega)).trans hK)
   have hBC:Below w.heap.size w C:=by
    rw [← hC];exact (hBB.setCell (p:=⟨w.heap.size+1+1,0,none⟩) (by show _≤w.heap.size+1+1;omega) _).setCell (p:=⟨w.heap.size+1+1,1,none⟩) (by show _≤w.heap.size+1+1;omega) _
   have hlC:W.heap.size < C.heap.size:=(Array.getElem?_eq_some_iff.1 hKC).1
   rw [hC]
   refine ⟨by simp,.inl ⟨_,_,rfl,run_takeDeferred hKC,?_⟩⟩
   have q0:=(World.cell?_of_block (w:=C) (World.putObj_heap_other (by show w.heap.size+1+1≠_;omega)):(C.putObj W.heap.size (.deferred none)).cell? ⟨w.heap.size+1+1,0,none⟩=_).trans hp.1
   have q1:=(World.cell?_of_block (w:=C) (World.putObj_heap_other (by show w.heap.size+1+1≠_;omega)):(C.putObj W.heap.size (.deferred none)).cell? ⟨w.heap.size+1+1,1,none⟩=_).trans hp.2
   exact ⟨_,ZC Tryz.results87 zT zF rfl q0 q1,rfl,hBC.grown (grownBy_putObj' C _ _) (by omega) (fun k e=>by cases e;omega)⟩
end Go.Proofs.Tryz
end
namespace Go.Proofs.Tryz
open Go Go.Load Go.RowKit
def cellNat (w:World) (p:Addr):Nat:=(intOf ((w.cell? p).getD undef)).toNat
theorem zZ {w:World} {p:Addr} {n:Int} (h:w.cell? p=some (.int .i64 n)):cellNat w p=n.toNat:=by simp [cellNat,h,intOf]
set_option maxHeartbeats 6000000 in
theorem Yf (x y:Int×Int) (w:World) (h1:0≤x.1) (h2:0 < x.2) (h3:0≤y.1) (h4:0 < y.2) (h5:x.1 < 4611686018427387904) (h6:x.2 < 4611686018427387904) (h7:y.1 < 4611686018427387904) (h8:y.2 < 4611686018427387904) :
 Calls qf 47 #[fv x,fv y] w fun e w'=>e=.returned (.bool (above x y))∧Below w.heap.size w w':=by
 obtain ⟨a0,b0⟩:=x
 obtain ⟨c0,d0⟩:=y
 simp only [fv] at *
 go_enter s47,ntmps47
 go_wp2
 go_loopw [] (fun wr=>∃a b c d:Int,0≤a∧0 < b∧0≤c∧0 < d∧a < 4611686018427387904∧b < 4611686018427387904∧c < 4611686018427387904∧d < 4611686018427387904∧Hid (above (a,b) (c,d)=above (a0,b0) (c0,d0)) ∧
  wr.cell? ⟨w.heap.size,0,none⟩=some (.int .i64 a)∧wr.cell? ⟨w.heap.size,1,none⟩=some (.int .i64 b)∧wr.cell? ⟨w.heap.size+1,0,none⟩=some (.int .i64 c)∧wr.cell? ⟨w.heap.size+1,1,none⟩=some (.int .i64 d) ∧
  wr.frozen? ⟨w.heap.size,0,none⟩=false∧wr.frozen? ⟨w.heap.size,1,none⟩=false∧wr.frozen? ⟨w.heap.size+1,0,none⟩=false∧wr.frozen? ⟨w.heap.size+1,1,none⟩=false∧w.heap.size+2≤wr.heap.size∧Below w.heap.size w wr)
  (fun wr=>cellNat wr ⟨w.heap.size,1,none⟩+cellNat wr ⟨w.heap.size+1,1,none⟩)
 case atStart=>exact ⟨a0,b0,c0,d0,h1,h2,h3,h4,h5,h6,h7,h8,Lib.hid rfl,by go_cell,by go_cell,by go_cell,by go_cell,by go_cell,by go_cell,by go_cell,by go_cell,by simp,by go_grown⟩
 case round =>
  clear h1 h2 h3 h4 h5 h6 h7 h8
  obtain ⟨a,b,c,d,h1,h2,h3,h4,h5,h6,h7,h8,HA,k0,k1,k2,k3,g0,g1,g2,g3,hsz,hB⟩:=hrel
  have e1:=Int.ediv_nonneg h1 (Int.le_of_lt h2)
  have e2:=Int.ediv_nonneg h3 (Int.le_of_lt h4)
  have e3:=Int.ediv_le_self b h1
  have e4:=Int.ediv_le_self d h3
  have e5:=Int.emod_nonneg a (Int.ne_of_gt h2)
  have e6:=Int.emod_lt_of_pos a h2
  have e7:=Int.emod_nonneg c (Int.ne_of_gt h4)
  have e8:=Int.emod_lt_of_pos c h4
  have n1:(b == 0)=false:=by rw [beq_eq_false_iff_ne];omega
  have n2:(d == 0)=false:=by rw [beq_eq_false_iff_ne];omega
  go_wp2
  go_region
  all_goals go_wp2
  ·have heq:(a / b == c / d)=true:=by assumption
   have heq':a / b=c / d:=by simpa using heq
   have hA:above (a,b) (c,d)=decide ((c % d) * b < (a % b) * d):=by
    unfold above
    exact decide_eq_decide.2 (ZU h2 h4 heq')
   have chain:∀(u v:Int) ,Below w.heap.size w ((wr.setCell ⟨w.heap.size,0,none⟩ (.int .i64 u)).setCell ⟨w.heap.size+1,0,none⟩ (.int .i64 v)).drew.drew:=fun u v=>(((hB.setCell (p:=⟨w.heap.size,0,none⟩) (Nat.le_refl _) _).setCell (p:=⟨w.heap.size+1,0,none⟩) (Nat.le_succ _) _).drew).drew
   by_cases z1:a % b=0
   ·go_region
    all_goals go_wp2
    go_returns
    refine ⟨?_,chain _ _⟩
    rw [← HA.out,hA,z1,Int.zero_mul]
    have:¬ (c % d) * b < 0:=Int.not_lt.2 (Int.mul_nonneg e7 (Int.le_of_lt h2))
    simp [this]
   ·by_cases z2:c % d=0
    ·go_region
     all_goals go_wp2
     go_returns
     refine ⟨?_,chain _ _⟩
     rw [← HA.out,hA,z2,Int.zero_mul]
     have p1:0 < a % b:=by omega
     have:0 < (a % b) * d:=Int.mul_pos p1 h4
     simp [this,p1]
    ·go_region
     all_goals go_wp2
     ·exfalso
      have hh:(a % b == 0)=true∨(c % d == 0)=true:=by assumption
      simp [z1,z2] at hh
     ·clear chain
      go_roundw
      case rel =>
       refine ⟨d,c % d,b,a % b,by omega,by omega,by omega,by omega,by omega,by omega,by omega,by omega,Lib.hid ?_,by go_cell,by go_cell,qcy (qd (by simp) (ze (qy (qy (qy (qy (by rw [k2];rfl))))))),by go_cell,by go_cell,by go_cell,by go_cell,by go_cell,by simpa using hsz,?_⟩
       ·rw [← HA.out,hA]
        unfold above
        simp only [Int.mul_comm]
       ·exact (((((((hB.setCell (p:=⟨w.heap.size,0,none⟩) (Nat.le_refl _) _).setCell (p:=⟨w.heap.size+1,0,none⟩) (Nat.le_succ _) _).setCell (p:=⟨w.heap.size,0,none⟩) (Nat.le_refl _) _).setCell (p:=⟨w.heap.size,1,none⟩) (Nat.le_refl _) _).setCell (p:=⟨w.heap.size+1,0,none⟩) (Nat.le_succ _) _).setCell (p:=⟨w.heap.size+1,1,none⟩) (Nat.le_succ _) _).drew).drew
      case measure =>
       rw [zZ k1,zZ k3,zZ (n:=c % d) (by go_cell),zZ (n:=a % b) (by go_cell)]
       omega
  ·have hne:(a / b == c / d)=false:=by assumption
   have hne':a / b≠c / d:=by simpa using hne
   go_region
   all_goals go_wp2
   go_returns
   refine ⟨?_,((hB.drew).drew)⟩
   rw [← HA.out]
   unfold above
   simp only [qbJ h2 h4 hne']
   rfl
def qJ (x:Int×Int) (T:Nat):Int×Int:=low (x.1 * (qQ x T).1) (x.2 * (qQ x T).2)
set_option maxHeartbeats 1000000 in
theorem Qd (T:Nat) (x:Int×Int) (h1:0≤x.1) (h2:x.1≤12) (h3:1≤x.2) (h4:x.2≤4) (hT:T≤7) (w:World) :
 Calls qf 88 #[fv x,.int .i64 T] w fun e w'=>e=.returned (fv (qJ x T))∧Below w.heap.size w w':=by
 have hb:=xW h1 h2 h3 h4 T hT
 have hloss:=fun W=>Zi T x h1 h2 h3 h4 hT W
 have hp:(40:Int) ^ T≤40 ^ 7:=by exact_mod_cast Nat.pow_le_pow_right (by decide) hT
 simp only [qJ]
 revert hb hloss
 generalize qQ x T=q
 rintro ⟨q1,q2,q3,q4⟩ hloss
 have m2:x.1 * q.1≤12 * q.2:=Int.le_trans (Int.mul_le_mul_of_nonneg_right h2 q1) (by omega)
 have m3:x.2 * q.2≤4 * q.2:=Int.mul_le_mul_of_nonneg_right h4 (by omega)
 have q5:q.2≤163840000000:=Int.le_trans q4 (Int.le_trans hp (by decide))
 have htimes:=fun W=>qap x q W h1 (by omega) q1 (by omega) (by omega) (by omega)
 simp only [fv] at *
 clear q4 hp m2 m3
 go_enter s88,ntmps88
 go_wp2_with fail
 go_region_held3 (fun w'=>w'.cell? ⟨w.heap.size,0,none⟩=some (.int .i64 x.1)∧w'.cell? ⟨w.heap.size,1,none⟩=some (.int .i64 x.2)∧w'.frozen? ⟨w.heap.size+1,0,none⟩=false∧w'.frozen? ⟨w.heap.size+1,1,none⟩=false ∧
  w'.cell? ⟨w.heap.size+1,0,none⟩=some (atD w' ⟨w.heap.size+1,0,none⟩)∧w'.cell? ⟨w.heap.size+1,1,none⟩=some (atD w' ⟨w.heap.size+1,1,none⟩)∧Below w.heap.size w w')
  (first | exact ⟨by go_cell,by go_cell,by go_cell,by go_cell,qO (qA (v:=.int .i64 0) (by go_cell)),qO (qA (v:=.int .i64 0) (by go_cell)),by go_grown⟩ | exact held22 ‹_› hB | exact Xq _ _ ‹_› (by simp) (by simp)) (first | (go_at_call 87;refine (hloss _).mono ?_;rintro e w1 ⟨rfl,hB⟩) | (go_at_call 125;refine (htimes _).mono ?_;rintro e w1 ⟨rfl,hB⟩))
 go_wp2
 rename_i hH
 obtain ⟨c0,c1,hG⟩:=Xp hH
 exact yU results88 zT zF rfl c0 c1 ⟨rfl,hG⟩
theorem jP {x:Int×Int} (h1:0≤x.1) (h2:x.1≤12) (h3:1≤x.2) (h4:x.2≤4):0≤(low x.1 x.2).1∧(low x.1 x.2).1≤12∧1≤(low x.1 x.2).2∧(low x.1 x.2).2≤4:=by
 obtain ⟨a,b,c,d,_⟩:=xw h1 (show 0 < x.2 by omega)
 exact ⟨a,by omega,c,by omega⟩
def borne (x:Int×Int) (T:Nat) (l:Int×Int):Bool:=!above (qQ (low x.1 x.2) T) (low l.1 l.2)
def Held44 (w:World) (ab rb:Nat) (u v x y:Value) (W:World):Prop :=
 W.cell? ⟨ab,0,none⟩=some u∧W.cell? ⟨ab,1,none⟩=some v∧W.cell? ⟨rb,0,none⟩=some x∧W.cell? ⟨rb,1,none⟩=some y∧Below w.heap.size w W
theorem qej {w W w1:World} {ab rb:Nat} {u v x y:Value} (h:Held44 w ab rb u v x y W) (hB:Below W.heap.size W w1):Held44 w ab rb u v x y w1:=by
 obtain ⟨a,b,c,d,g⟩:=h
 exact ⟨qb _ hB a,qb _ hB b,qb _ hB c,qb _ hB d,bcl g hB⟩
set_option maxHeartbeats 1000000 in
theorem bears_any (T:Nat) (x l:Int×Int) (h1:0≤x.1) (h2:x.1≤12) (h3:1≤x.2) (h4:x.2≤4) (hT:T≤7) (l1:0≤l.1) (l2:1≤l.2) (l3:l.1≤l.2) (l4:l.2≤100) (w:World) :
 Calls qf 92 #[fv x,.int .i64 T,fv l] w fun e w'=>e=.returned (.bool (borne x T l))∧Below w.heap.size w w':=by
 obtain ⟨k1,k2,k3,k4⟩:=jP h1 h2 h3 h4
 obtain ⟨j1,j2,j3,j4,_⟩:=xw l1 (show 0 < l.2 by omega)
 have hb:=xW k1 k2 k3 k4 T hT
 have hof:=fun W=>YF x W h1 (by omega) (by omega) (by omega)
 have hof2:=fun W=>YF l W l1 (by omega) (by omega) (by omega)
 have hloss:=fun W=>Zi T (low x.1 x.2) k1 k2 k3 k4 hT W
 have hp:(40:Int) ^ T≤40 ^ 7:=by exact_mod_cast Nat.pow_le_pow_right (by decide) hT
 simp only [borne]
 revert hb hloss hof hof2
 generalize qQ (low x.1 x.2) T=q
 generalize low x.1 x.2=y at *
 generalize low l.1 l.2=m at *
 rintro ⟨q1,q2,q3,q4⟩ hof hof2 hloss
 have q5:q.2≤163840000000:=Int.le_trans q4 (Int.le_trans hp (by decide))
 have hab:=fun W=>Yf q m W q1 (by omega) j1 (by omega) (by omega) (by omega) (by omega) (by omega)
 clear q4 hp
 simp only [fv] at *
 go_enter s92,ntmps92
 go_wp2_with fail
 go_region_held3 (fun w'=>w'.cell? ⟨w.heap.size,0,none⟩=some (.int .i64 x.1)∧w'.cell? ⟨w.heap.size,1,none⟩=some (.int .i64 x.2)∧w'.cell? ⟨w.heap.size+1,0,none⟩=some (.int .i64 l.1)∧w'.cell? ⟨w.heap.size+1,1,none⟩=some (.int .i64 l.2)∧Below w.heap.size w w')
  (first | exact ⟨by go_cell,by go_cell,by go_cell,by go_cell,by go_grown⟩ | exact qej ‹_› hB | assumption) (first | (go_at_call 87;refine (hloss _).mono ?_;rintro e w1 ⟨rfl,hB⟩) | (go_at_call 46;(first | (with_reducible refine (hof _).mono ?_) | (with_reducible refine (hof2 _).mono ?_));rintro e w1 ⟨rfl,hB⟩) | (go_at_call 47;refine (hab _).mono ?_;rintro e w1 ⟨rfl,hB⟩))
 all_goals
  go_wp2
  rename_i hH
  go_ret
  exact ⟨rfl,hH.2.2.2.2⟩
theorem qC (a b c:Int) (w:World) (h:b≤a∧a≤c):Calls qf 65 #[.int .i64 a,.int .i64 b,.int .i64 c] w fun e w'=>e=.returned (.bool true)∧w=w' :=
 (zX a b c w).mono fun e w' ⟨he,hw⟩=>⟨by rw [he,btw_t h],hw⟩
theorem qU (a b c:Int) (w:World) (h:¬ (b≤a∧a≤c)):Calls qf 65 #[.int .i64 a,.int .i64 b,.int .i64 c] w fun e w'=>e=.returned (.bool false)∧w=w' :=
 (zX a b c w).mono fun e w' ⟨he,hw⟩=>⟨by rw [he,btw_f h],hw⟩
theorem zM (a:Int) (w:World) (h:0≤a∧a≤7):Calls qf 85 #[.int .i64 a] w fun e w'=>e=.returned (.bool true)∧w=w' :=
 (jO a w).mono fun e w' ⟨he,hw⟩=>⟨by rw [he,btw_t h],hw⟩
theorem jg (a:Int) (w:World) (h:¬ (0≤a∧a≤7)):Calls qf 85 #[.int .i64 a] w fun e w'=>e=.returned (.bool false)∧w=w' :=
 (jO a w).mono fun e w' ⟨he,hw⟩=>⟨by rw [he,btw_f h],hw⟩
def yj (x:Int×Int):Prop:=(0≤x.1∧x.1≤12)∧1≤x.2∧x.2≤4
def Lim (x:Int×Int):Prop:=(1≤x.2∧x.2≤100)∧0≤x.1∧x.1≤x.2
instance (x:Int×Int):Decidable (yj x):=by unfold yj;infer_instance
instance (x:Int×Int):Decidable (Lim x):=by unfold Lim;infer_instance
theorem zQ (x:Int×Int) (w:World) (h:yj x):Calls qf 71 #[fv x] w fun e w'=>e=.returned (.bool true)∧Below w.heap.size w w':=by
 obtain ⟨h1,h2⟩:=h
 simp only [fv]
 go_enter s71,ntmps71
 go_wp2_with (go_at_call 65;(first | (with_reducible refine (qC _ _ _ _ h1).mono ?_) | (with_reducible refine (qC _ _ _ _ h2).mono ?_));rintro e w' ⟨rfl,rfl⟩)
 go_ret
 exact ⟨rfl,by go_grown⟩
theorem yJ (x:Int×Int) (w:World) (h:¬ yj x):Calls qf 71 #[fv x] w fun e w'=>e=.returned (.bool false)∧Below w.heap.size w w':=by
 simp only [fv]
 by_cases h1:0≤x.1∧x.1≤12
 ·have h2:¬ (1≤x.2∧x.2≤4):=fun h2=>h ⟨h1,h2⟩
  go_enter s71,ntmps71
  go_wp2_with (go_at_call 65;(first | (with_reducible refine (qC _ _ _ _ h1).mono ?_) | (with_reducible refine (qU _ _ _ _ h2).mono ?_));rintro e w' ⟨rfl,rfl⟩)
  go_ret
  exact ⟨rfl,by go_grown⟩
 ·go_enter s71,ntmps71
  go_wp2_with (go_at_call 65;(with_reducible refine (qU _ _ _ _ h1).mono ?_);rintro e w' ⟨rfl,rfl⟩)
  go_ret
  exact ⟨rfl,by go_grown⟩
theorem Qx (x:Int×Int) (w:World) (h:Lim x):Calls qf 91 #[fv x] w fun e w'=>e=.returned (.bool true)∧Below w.heap.size w w':=by
 obtain ⟨h1,h2⟩:=h
 simp only [fv]
 go_enter s91,ntmps91
 go_wp2_with (go_at_call 65;(first | (with_reducible refine (qC _ _ _ _ h1).mono ?_) | (with_reducible refine (qC _ _ _ _ h2).mono ?_));rintro e w' ⟨rfl,rfl⟩)
 go_ret
 exact ⟨rfl,by go_grown⟩
theorem Ze (x:Int×Int) (w:World) (h:¬ Lim x):Calls qf 91 #[fv x] w fun e w'=>e=.returned (.bool false)∧Below w.heap.size w w':=by
 simp only [fv]
 by_cases h1:1≤x.2∧x.2≤100
 ·have h2:¬ (0≤x.1∧x.1≤x.2):=fun h2=>h ⟨h1,h2⟩
  go_enter s91,ntmps91
  go_wp2_with (go_at_call 65;(first | (with_reducible refine (qC _ _ _ _ h1).mono ?_) | (with_reducible refine (qU _ _ _ _ h2).mono ?_));rintro e w' ⟨rfl,rfl⟩)
  go_ret
  exact ⟨rfl,by go_grown⟩
 ·go_enter s91,ntmps91
  go_wp2_with (go_at_call 65;(with_reducible refine (qU _ _ _ _ h1).mono ?_);rintro e w' ⟨rfl,rfl⟩)
  go_ret
  exact ⟨rfl,by go_grown⟩
def tv (r:Int×Int) (a:Int):Value:=.tuple #[fv r,.int .i64 a]
set_option maxHeartbeats 1000000 in
theorem Jq (f:FuncId) (hf:∀(args:Array Value) (w:World),(callFunc f args).run qf w=.ok (.enter f args) w) (T:Nat) (x r:Int×Int) (h:yj x) (hT:T≤7)
 (hw:∀W,Calls qf f #[fv (low x.1 x.2),.int .i64 T] W fun e w'=>e=.returned (fv r)∧Below W.heap.size W w') (w:World) :
 Calls qf 86 #[fv x,.int .i64 T,.func (.func f) #[] #[]] w fun e w'=>e=.returned (tv r 0)∧Below w.heap.size w w':=by
 have hof:=fun W=>YF x W h.1.1 (by have:=h.2.1;omega) (by have:=h.1.2;omega) (by have:=h.2.2;omega)
 have hfr:=fun W=>Zx r W
 have htr:=fun W=>zQ x W h
 generalize low x.1 x.2=y at *
 simp only [fv,tv] at *
 go_enter s86,ntmps86
 go_wp2_with (first | (go_at_call 85;(with_reducible refine (zM _ _ (by omega)).mono ?_);rintro e w1 ⟨rfl,rfl⟩) | (go_at_call 71;(with_reducible refine (htr _).mono ?_);rintro e w1 ⟨rfl,hB1⟩;(first | (replace hB:=bcl (by with_reducible assumption) hB1) | (replace hB:=bcl (by go_grown) hB1) | (have hB:=hB1));(try clear hc hg hz);obtain ⟨hc,hg⟩:=qx hB;have hz:=hB.size;clear hB1;(try simp at hz);(try have hlt0:w.heap.size < w1.heap.size:=by omega)) | (go_at_call 46;(with_reducible refine (hof _).mono ?_);rintro e w1 ⟨rfl,hB1⟩;(first | (replace hB:=bcl (by with_reducible assumption) hB1) | (replace hB:=bcl (by go_grown) hB1) | (have hB:=hB1));(try clear hc hg hz);obtain ⟨hc,hg⟩:=qx hB;have hz:=hB.size;clear hB1;(try simp at hz);(try have hlt0:w.heap.size < w1.heap.size:=by omega)) | (go_at_call 77;(with_reducible refine (hfr _).mono ?_);rintro e w1 ⟨rfl,hB1⟩;(first | (replace hB:=bcl (by with_reducible assumption) hB1) | (replace hB:=bcl (by go_grown) hB1) | (have hB:=hB1));(try clear hc hg hz);obtain ⟨hc,hg⟩:=qx hB;have hz:=hB.size;clear hB1;(try simp at hz);(try have hlt0:w.heap.size < w1.heap.size:=by omega)) | ((with_reducible refine (hw _).mono ?_);rintro e w1 ⟨rfl,hB1⟩;(first | (replace hB:=bcl (by with_reducible assumption) hB1) | (replace hB:=bcl (by go_grown) hB1) | (have hB:=hB1));(try clear hc hg hz);obtain ⟨hc,hg⟩:=qx hB;have hz:=hB.size;clear hB1;(try simp at hz);(try have hlt0:w.heap.size < w1.heap.size:=by omega)))
 have c0:w1.cell? ⟨w.heap.size+1,0,none⟩=some (.int .i64 0):=by rw [hc _ _ (by simp)];go_cell
 have c1:w1.cell? ⟨w.heap.size+1,1,none⟩=some (.int .i64 0):=by rw [hc _ _ (by simp)];go_cell
 have hp:=ZP (.int .i64 r.1) (.int .i64 r.2) c0 c1
 refine bodyPost_ret (qZ results86 rfl rfl (xu zl qW hp.1 hp.2)) rfl ⟨rfl,?_⟩
 exact ((bcl (w:=w) (by go_grown) hB).setCell (by simp) _).setCell (by simp) _
set_option maxHeartbeats 1000000 in
theorem qbx (v:Value) (T:Int) (x:Int×Int) (h:¬ (yj x∧0≤T∧T≤7)) (w:World) :
 Calls qf 86 #[fv x,.int .i64 T,v] w fun e w'=>e=.returned (tv (0,0) 1)∧Below w.heap.size w w':=by
 simp only [tv]
 by_cases hx:yj x
 ·have hT:¬ (0≤T∧T≤7):=fun hT=>h ⟨hx,hT⟩
  have htr:=fun W=>zQ x W hx
  simp only [fv] at *
  go_enter s86,ntmps86
  go_wp2_with (first | (go_at_call 85;(with_reducible refine (jg _ _ hT).mono ?_);rintro e w1 ⟨rfl,rfl⟩) | (go_at_call 71;(with_reducible refine (htr _).mono ?_);rintro e w1 ⟨rfl,hB1⟩;(first | (replace hB:=bcl (by with_reducible assumption) hB1) | (replace hB:=bcl (by go_grown) hB1) | (have hB:=hB1));(try clear hc hg hz);obtain ⟨hc,hg⟩:=qx hB;have hz:=hB.size;clear hB1;(try simp at hz);(try have hlt0:w.heap.size < w1.heap.size:=by omega)))
  have c0:w1.cell? ⟨w.heap.size+1,0,none⟩=some (.int .i64 0):=by rw [hc _ _ (by simp)];go_cell
  have c1:w1.cell? ⟨w.heap.size+1,1,none⟩=some (.int .i64 0):=by rw [hc _ _ (by simp)];go_cell
  have hp:=ZP (.int .i64 0) (.int .i64 0) c0 c1
  refine bodyPost_ret (qZ results86 rfl rfl (xu zl qW hp.1 hp.2)) rfl ⟨rfl,?_⟩
  exact ((bcl (w:=w) (by go_grown) hB).setCell (by simp) _).setCell (by simp) _
 ·have htr:=fun W=>yJ x W hx
  simp only [fv] at *
  go_enter s86,ntmps86
  go_wp2_with (first | (go_at_call 71;(with_reducible refine (htr _).mono ?_);rintro e w1 ⟨rfl,hB1⟩;(first | (replace hB:=bcl (by with_reducible assumption) hB1) | (replace hB:=bcl (by go_grown) hB1) | (have hB:=hB1));(try clear hc hg hz);obtain ⟨hc,hg⟩:=qx hB;have hz:=hB.size;clear hB1;(try simp at hz);(try have hlt0:w.heap.size < w1.heap.size:=by omega)))
  have c0:w1.cell? ⟨w.heap.size+1,0,none⟩=some (.int .i64 0):=by rw [hc _ _ (by simp)];go_cell
  have c1:w1.cell? ⟨w.heap.size+1,1,none⟩=some (.int .i64 0):=by rw [hc _ _ (by simp)];go_cell
  have hp:=ZP (.int .i64 0) (.int .i64 0) c0 c1
  refine bodyPost_ret (qZ results86 rfl rfl (xu zl qW hp.1 hp.2)) rfl ⟨rfl,?_⟩
  exact ((bcl (w:=w) (by go_grown) hB).setCell (by simp) _).setCell (by simp) _
theorem any_take_succ {α:Type} {l:List α} {k:Nat} {x:α} (p:α→Bool) (h:l[k]? = some x) (hn:(l.take k).any p=false):(l.take (k+1)).any p=p x:=by
 obtain ⟨hk,rfl⟩:=List.getElem?_eq_some_iff.1 h
 rw [List.take_succ_eq_append_getElem hk,List.any_append,hn]
 simp
theorem QV {α:Type} {l:List α} {k:Nat} {x:α} (p:α→Bool) (h:l[k]? = some x) (hp:p x=true):l.any p=true:=List.any_eq_true.2 ⟨x,List.mem_of_getElem? h,hp⟩
set_option maxHeartbeats 1000000 in
theorem XZ (fid:FuncId) (bound:Array Value) (hf:∀(args:Array Value) (w:World),(callFunc fid args).run qf w=.ok (.enter fid args) w) (p:Int×Int→Bool) (l:List (Int×Int)) (a:Option Addr) (c:Nat) (hlen:l.length≤1000) (w:World) (hQ:1≤l.length→∃b o,a=some ⟨b,o,none⟩∧qL w b o l)
 (hcall:∀x∈l,∀W,Below w.heap.size w W→Calls qf fid (#[fv x] ++ bound) W fun e w'=>e=.returned (.bool (p x))∧Below W.heap.size W w') :
 Calls qf 119 #[.slice a l.length c,.func (.func fid) #[] bound] w fun e w'=>(∃n:Int,e=.returned (.int .i64 n)∧((0≤n)↔l.any p=true)∧n≤1000)∧Below w.heap.size w w':=by
 go_enter s119,ntmps119
 go_wp2
 go_loopw [8] (fun i wr=>∃k:Nat,i=.int .i64 k∧k≤l.length∧Below w.heap.size w wr∧Hid ((l.take k).any p=false)) (fun i _=>l.length - (intOf i).toNat)
 case atStart=>exact ⟨0,rfl,Nat.zero_le _,by go_grown,Lib.hid (by simp)⟩
 case round =>
  obtain ⟨k,rfl,hk,hB,HN⟩:=hrel
  by_cases hlt:k < l.length
  ·obtain ⟨b,o,rfl,hP⟩:=hQ (by omega)
   obtain ⟨x,hx⟩:∃x,l[k]? = some x:=⟨l[k],by simp [hlt]⟩
   have hm:x∈l:=List.mem_of_getElem? hx
   obtain ⟨c0,c1⟩:=hP k x hx
   have c0:=qb _ hB c0
   have c1:=qb _ hB c1
   have hcall:=hcall x hm wr hB
   have HX:=Lib.hid hx
   clear hP hx hm
   simp only [fv] at hcall
   obtain ⟨r,hr⟩:∃r,p x=r:=⟨_,rfl⟩
   rw [hr] at hcall
   have HR:=Lib.hid hr
   clear hr
   obtain ⟨args,hargs⟩:∃args,(#[Value.agg #[.int .i64 x.1,.int .i64 x.2]] ++ bound)=args:=⟨_,rfl⟩
   rw [hargs] at hcall
   cases r with
   | true =>
     go_wp2_with ((first | (rw [hargs]) | skip);(with_reducible refine hcall.mono ?_);rintro e w1 ⟨rfl,hB1⟩)
     go_ret
     refine ⟨⟨k,rfl,⟨fun _=>QV p HX.out HR.out,fun _=>Int.natCast_nonneg k⟩,by omega⟩,bcl hB hB1⟩
   | false =>
     go_wp2_with ((first | (rw [hargs]) | skip);(with_reducible refine hcall.mono ?_);rintro e w1 ⟨rfl,hB1⟩)
     go_roundw
     case rel=>exact ⟨k+1,rfl,by omega,bcl hB hB1,Lib.hid (by rw [any_take_succ p HX.out HN.out];exact HR.out)⟩
     case measure=>simp [intOf];omega
  ·obtain rfl:k=l.length:=by omega
   have hany:=HN.out
   rw [List.take_length] at hany
   have HA:=Lib.hid hany
   clear hany
   go_wp2
   go_ret
   refine ⟨⟨-1,rfl,⟨fun h=>absurd h (by decide),fun h=>?_⟩,by omega⟩,hB⟩
   rw [HA.out] at h;cases h
set_option maxHeartbeats 1000000 in
theorem yM (fid:FuncId) (bound:Array Value) (hf:∀(args:Array Value) (w:World),(callFunc fid args).run qf w=.ok (.enter fid args) w) (p:Int×Int→Bool) (l:List (Int×Int)) (a:Option Addr) (c:Nat) (hlen:l.length≤1000) (w:World) (hQ:1≤l.length→∃b o,a=some ⟨b,o,none⟩∧qL w b o l)
 (hcall:∀x∈l,∀W,Below w.heap.size w W→Calls qf fid (#[fv x] ++ bound) W fun e w'=>e=.returned (.bool (p x))∧Below W.heap.size W w') :
 Calls qf 69 #[.slice a l.length c,.func (.func fid) #[] bound] w fun e w'=>e=.returned (.bool (l.any p))∧Below w.heap.size w w':=by
 have hI:=XZ fid bound hf p l a c hlen w hQ hcall
 clear hcall hQ
 obtain ⟨r,hr⟩:∃r,l.any p=r:=⟨_,rfl⟩
 simp only [hr] at hI ⊢
 go_enter s69,ntmps69
 go_wp2_with (go_at_call 119;(with_reducible refine hI.mono ?_);rintro e w1 ⟨⟨n,rfl,hn,hn2⟩,hB1⟩)
 go_ret
 refine ⟨?_,hB1⟩
 cases r <;> simp at hn <;> simp <;> omega
set_option maxHeartbeats 1000000 in
theorem JQ (fid:FuncId) (bound:Array Value) (hf:∀(args:Array Value) (w:World),(callFunc fid args).run qf w=.ok (.enter fid args) w) (p:Grp→Bool) (l:List Grp) (a:Option Addr) (c:Nat) (hlen:l.length≤1000) (w:World) (hQ:1≤l.length→∃b o,a=some ⟨b,o,none⟩∧zG w b o l)
 (hcall:∀x∈l,∀W,Below w.heap.size w W→Calls qf fid (#[gv x] ++ bound) W fun e w'=>e=.returned (.bool (p x))∧Below W.heap.size W w') :
 Calls qf 158 #[.slice a l.length c,.func (.func fid) #[] bound] w fun e w'=>(∃n:Int,e=.returned (.int .i64 n)∧((0≤n)↔l.any p=true)∧n≤1000)∧Below w.heap.size w w':=by
 go_enter s158,ntmps158
 go_wp2
 go_loopw [8] (fun i wr=>∃k:Nat,i=.int .i64 k∧k≤l.length∧Below w.heap.size w wr∧Hid ((l.take k).any p=false)) (fun i _=>l.length - (intOf i).toNat)
 case atStart=>exact ⟨0,rfl,Nat.zero_le _,by go_grown,Lib.hid (by simp)⟩
 case round =>
  obtain ⟨k,rfl,hk,hB,HN⟩:=hrel
  by_cases hlt:k < l.length
  ·obtain ⟨b,o,rfl,hP⟩:=hQ (by omega)
   obtain ⟨x,hx⟩:∃x,l[k]? = some x:=⟨l[k],by simp [hlt]⟩
   have hm:x∈l:=List.mem_of_getElem? hx
   obtain ⟨c0,c1,c2⟩:=hP k x hx
   have c0:=qb _ hB c0
   have c1:=qb _ hB c1
   have c2:=qb _ hB c2
   have hcall:=hcall x hm wr hB
   have HX:=Lib.hid hx
   clear hP hx hm
   simp only [gv] at hcall
   obtain ⟨r,hr⟩:∃r,p x=r:=⟨_,rfl⟩
   rw [hr] at hcall
   have HR:=Lib.hid hr
   clear hr
   obtain ⟨args,hargs⟩:∃args,(#[Value.agg #[.string x.name,.int .i64 x.trunks,.slice x.ta x.traffic.length x.tc]] ++ bound)=args:=⟨_,rfl⟩
   rw [hargs] at hcall
   cases r with
   | true =>
     go_wp2_with ((first | (rw [hargs]) | skip);(with_reducible refine hcall.mono ?_);rintro e w1 ⟨rfl,hB1⟩)
     go_ret
     refine ⟨⟨k,rfl,⟨fun _=>QV p HX.out HR.out,fun _=>Int.natCast_nonneg k⟩,by omega⟩,bcl hB hB1⟩
   | false =>
     go_wp2_with ((first | (rw [hargs]) | skip);(with_reducible refine hcall.mono ?_);rintro e w1 ⟨rfl,hB1⟩)
     go_roundw
     case rel=>exact ⟨k+1,rfl,by omega,bcl hB hB1,Lib.hid (by rw [any_take_succ p HX.out HN.out];exact HR.out)⟩
     case measure=>simp [intOf];omega
  ·obtain rfl:k=l.length:=by omega
   have hany:=HN.out
   rw [List.take_length] at hany
   have HA:=Lib.hid hany
   clear hany
   go_wp2
   go_ret
   refine ⟨⟨-1,rfl,⟨fun h=>absurd h (by decide),fun h=>?_⟩,by omega⟩,hB⟩
   rw [HA.out] at h;cases h
set_option maxHeartbeats 1000000 in
theorem Yr (fid:FuncId) (bound:Array Value) (hf:∀(args:Array Value) (w:World),(callFunc fid args).run qf w=.ok (.enter fid args) w) (p:Grp→Bool) (l:List Grp) (a:Option Addr) (c:Nat) (hlen:l.length≤1000) (w:World) (hQ:1≤l.length→∃b o,a=some ⟨b,o,none⟩∧zG w b o l)
 (hcall:∀x∈l,∀W,Below w.heap.size w W→Calls qf fid (#[gv x] ++ bound) W fun e w'=>e=.returned (.bool (p x))∧Below W.heap.size W w') :
 Calls qf 153 #[.slice a l.length c,.func (.func fid) #[] bound] w fun e w'=>e=.returned (.bool (l.any p))∧Below w.heap.size w w':=by
 have hI:=JQ fid bound hf p l a c hlen w hQ hcall
 clear hcall hQ
 obtain ⟨r,hr⟩:∃r,l.any p=r:=⟨_,rfl⟩
 simp only [hr] at hI ⊢
 go_enter s153,ntmps153
 go_wp2_with (go_at_call 158;(with_reducible refine hI.mono ?_);rintro e w1 ⟨⟨n,rfl,hn,hn2⟩,hB1⟩)
 go_ret
 refine ⟨?_,hB1⟩
 cases r <;> simp at hn <;> simp <;> omega
theorem qaT (x:Int×Int) (w:World):Calls qf 155 #[fv x] w fun e w'=>e=.returned (.bool (!decide (yj x)))∧Below w.heap.size w w':=by
 have ht:∀W,Calls qf 71 #[fv x] W fun e w'=>e=.returned (.bool (decide (yj x)))∧Below W.heap.size W w':=fun W=>by
  by_cases h:yj x
  ·rw [decide_eq_true h];exact zQ x W h
  ·rw [decide_eq_false h];exact yJ x W h
 obtain ⟨r,hr⟩:∃r,decide (yj x)=r:=⟨_,rfl⟩
 simp only [hr] at ht ⊢
 clear hr
 simp only [fv] at *
 go_enter s155,ntmps155
 go_wp2_with (go_at_call 71;(with_reducible refine (ht _).mono ?_);rintro e w1 ⟨rfl,hB1⟩;(first | (replace hB:=bcl (by with_reducible assumption) hB1) | (replace hB:=bcl (by go_grown) hB1) | (have hB:=hB1));(try clear hc hg hz);obtain ⟨hc,hg⟩:=qx hB;have hz:=hB.size;clear hB1;(try simp at hz);(try have hlt0:w.heap.size < w1.heap.size:=by omega))
 go_ret
 exact ⟨rfl,bcl (w:=w) (by go_grown) hB⟩
theorem qdF (x:Int×Int) (w:World):Calls qf 70 #[fv x] w fun e w'=>e=.returned (.bool (!decide (yj x)))∧Below w.heap.size w w':=by
 have ht:∀W,Calls qf 71 #[fv x] W fun e w'=>e=.returned (.bool (decide (yj x)))∧Below W.heap.size W w':=fun W=>by
  by_cases h:yj x
  ·rw [decide_eq_true h];exact zQ x W h
  ·rw [decide_eq_false h];exact yJ x W h
 obtain ⟨r,hr⟩:∃r,decide (yj x)=r:=⟨_,rfl⟩
 simp only [hr] at ht ⊢
 clear hr
 simp only [fv] at *
 go_enter s70,ntmps70
 go_wp2_with (go_at_call 71;(with_reducible refine (ht _).mono ?_);rintro e w1 ⟨rfl,hB1⟩;(first | (replace hB:=bcl (by with_reducible assumption) hB1) | (replace hB:=bcl (by go_grown) hB1) | (have hB:=hB1));(try clear hc hg hz);obtain ⟨hc,hg⟩:=qx hB;have hz:=hB.size;clear hB1;(try simp at hz);(try have hlt0:w.heap.size < w1.heap.size:=by omega))
 go_ret
 exact ⟨rfl,bcl (w:=w) (by go_grown) hB⟩
theorem qaS (g:Grp) (nm:ByteArray) (pb:Nat) (w:World) (h:w.cell? ⟨pb,0,none⟩=some (.string nm)) :
 Calls qf 154 (#[gv g] ++ #[.pointer (some ⟨pb,0,none⟩)]) w fun e w'=>e=.returned (.bool (g.name.toList == nm.toList))∧Below w.heap.size w w':=by
 have hlt:pb < w.heap.size:=lt_of_cell h
 simp only [gv,List.append_toArray,List.cons_append,List.nil_append]
 go_enter s154,ntmps154
 go_wp2
 go_ret
 exact ⟨rfl,by go_grown⟩
set_option maxHeartbeats 1000000 in
theorem qec (x l:Int×Int) (T:Nat) (tb bb:Nat) (w:World) (hx:yj x) (hT:T≤7) (hl:Lim l) (h0:w.cell? ⟨tb,0,none⟩=some (.int .i64 T)) (h1:w.cell? ⟨bb,0,none⟩=some (.int .i64 l.1)) (h2:w.cell? ⟨bb,1,none⟩=some (.int .i64 l.2)) :
 Calls qf 96 (#[fv x] ++ #[.pointer (some ⟨tb,0,none⟩),.pointer (some ⟨bb,0,none⟩)]) w fun e w'=>e=.returned (.bool (!borne x T l))∧Below w.heap.size w w':=by
 have hbe:=fun W=>bears_any T x l hx.1.1 hx.1.2 hx.2.1 hx.2.2 hT hl.2.1 hl.1.1 hl.2.2 hl.1.2 W
 have hlt:tb < w.heap.size:=lt_of_cell h0
 have hlt2:bb < w.heap.size:=lt_of_cell h1
 obtain ⟨r,hr⟩:∃r,borne x T l=r:=⟨_,rfl⟩
 simp only [hr] at hbe ⊢
 clear hr
 simp only [fv,List.append_toArray,List.cons_append,List.nil_append] at *
 go_enter s96,ntmps96
 go_wp2_with (go_at_call 92;(with_reducible refine (hbe _).mono ?_);rintro e w1 ⟨rfl,hB1⟩;(first | (replace hB:=bcl (by with_reducible assumption) hB1) | (replace hB:=bcl (by go_grown) hB1) | (have hB:=hB1));(try clear hc hg hz);obtain ⟨hc,hg⟩:=qx hB;have hz:=hB.size;clear hB1;(try simp at hz);(try have hlt0:w.heap.size < w1.heap.size:=by omega))
 go_ret
 exact ⟨rfl,bcl (w:=w) (by go_grown) hB⟩
structure FineBk (w:World) (B:Bk):Prop where
 at_:BookAt w B
 lim:Lim B.lim
theorem FineBk.keep {w w1:World} {B:Bk} (h:FineBk w B) (hB:Below w.heap.size w w1):FineBk w1 B:=⟨h.at_.keep hB,h.lim⟩
def jG (B:Bk) (g:Grp) (T:Nat):Bool:=!g.traffic.any fun x => !borne x T B.lim
set_option maxHeartbeats 1000000 in
theorem XT (B:Bk) (i T:Nat) (g:Grp) (hg:B.gs[i]? = some g) (hT:T≤7) (w:World) (h:FineBk w B) (htr:∀x∈g.traffic,yj x) :
 Calls qf 56 #[bv B,.int .i64 i,.int .i64 T] w fun e w'=>e=.returned (.bool (jG B g T))∧Below w.heap.size w w':=by
 obtain ⟨hi,rfl⟩:=List.getElem?_eq_some_iff.1 hg
 obtain ⟨b,o,hga,hc⟩:=h.at_.row (by omega)
 obtain ⟨c0,c1,c2⟩:=hc i _ hg
 have hsm:=(h.at_.small.2 _ (List.mem_of_getElem? hg)).1
 have htf:=h.at_.traf _ (List.mem_of_getElem? hg)
 have hl:=h.lim
 generalize hgg:B.gs[i]=g at *
 obtain ⟨lim,gr,hr,gs,ga,gc⟩:=B
 simp only at hga hl hi
 subst hga
 have hlb:b < w.heap.size:=lt_of_cell c0
 unfold jG
 simp only [bv]
 have hcon:∀W,Below w.heap.size w W→W.cell? ⟨w.heap.size+1,0,none⟩=some (.int .i64 T)→W.cell? ⟨w.heap.size,0,none⟩=some (.int .i64 lim.1)→W.cell? ⟨w.heap.size,1,none⟩=some (.int .i64 lim.2) →
  Calls qf 69 #[.slice g.ta g.traffic.length g.tc,.func (.func 96) #[] #[.pointer (some ⟨w.heap.size+1,0,none⟩),.pointer (some ⟨w.heap.size,0,none⟩)]] W fun e w'=>e=.returned (.bool (g.traffic.any fun x => !borne x T lim))∧Below W.heap.size W w':=fun W hB k0 k1 k2 =>
  yM _ _ (fun args w=>c96 args w) _ _ _ _ (by omega) W (htf.keep hB) fun x hx W' hB'=>qec x lim T _ _ W' (htr x hx) hT hl (qb _ hB' k0) (qb _ hB' k1) (qb _ hB' k2)
 obtain ⟨r,hrr⟩:∃r,(g.traffic.any fun x => !borne x T lim)=r:=⟨_,rfl⟩
 simp only [hrr] at hcon ⊢
 clear hrr hc hgg hg
 go_enter s56,ntmps56
 go_wp2_with (go_at_call 69;refine (hcon _ (by go_grown) (by go_cell) (by go_cell) (by go_cell)).mono ?_;rintro e w1 ⟨rfl,hB⟩)
 go_ret
 exact ⟨rfl,bcl (w:=w) (by go_grown) hB⟩
def yT (B:Bk) (g:Grp) (k:Nat):Option Nat:=((List.range 8).drop k).find? fun n=>jG B g n
def yP (B:Bk) (g:Grp):Int:=match yT B g 0 with | some n=>n | none=>-1
theorem Yt {k:Nat} (hk:k < 8):(List.range 8).drop k=k :: (List.range 8).drop (k+1):=by
 rcases (show k=0∨k=1∨k=2∨k=3∨k=4∨k=5∨k=6∨k=7 by omega) with rfl | rfl | rfl | rfl | rfl | rfl | rfl | rfl <;> rfl
theorem Zz {B:Bk} {g:Grp} {k:Nat} (hk:k < 8) (h:jG B g k=true):yT B g k=some k:=by
 unfold yT;rw [Yt hk,List.find?_cons,h]
theorem YD {B:Bk} {g:Grp} {k:Nat} (hk:k < 8) (h:jG B g k=false):yT B g k=yT B g (k+1):=by
 unfold yT;rw [Yt hk,List.find?_cons,h]
set_option maxHeartbeats 1000000 in
theorem YE (B:Bk) (i:Nat) (g:Grp) (hg:B.gs[i]? = some g) (w:World) (h:FineBk w B) (htr:∀x∈g.traffic,yj x) :
 Calls qf 62 #[bv B,.int .i64 i] w fun e w'=>e=.returned (.int .i64 (yP B g))∧Below w.heap.size w w':=by
 have hfi:=fun (T:Nat) (hT:T≤7) (W:World) (hB:Below w.heap.size w W)=>XT B i T g hg hT W (h.keep hB) htr
 obtain ⟨R,hR⟩:∃R,yP B g=R:=⟨_,rfl⟩
 rw [hR]
 have HR:=Lib.hid hR
 clear hR
 obtain ⟨C,hC⟩:∃C:Array Value,C=#[.int .i64 B.lim.1,.int .i64 B.lim.2,.int .i64 B.growth,.int .i64 B.hours,.slice B.ga B.gs.length B.gc]:=⟨_,rfl⟩
 simp only [bv] at hfi ⊢
 have HF:=Lib.hid hfi
 clear hfi h htr hg hC
 go_enter s62,ntmps62
 go_wp2
 obtain ⟨W,hW⟩:∃W,w.alloc (Obj.cells #[.int .i64 B.lim.1,.int .i64 B.lim.2,.int .i64 B.growth,.int .i64 B.hours,.slice B.ga B.gs.length B.gc] 67)=W:=⟨_,rfl⟩
 have k0:W.cell? ⟨w.heap.size,0,none⟩=some (.int .i64 B.lim.1):=by subst hW;go_cell
 have k1:W.cell? ⟨w.heap.size,1,none⟩=some (.int .i64 B.lim.2):=by subst hW;go_cell
 have k2:W.cell? ⟨w.heap.size,2,none⟩=some (.int .i64 B.growth):=by subst hW;go_cell
 have k3:W.cell? ⟨w.heap.size,3,none⟩=some (.int .i64 B.hours):=by subst hW;go_cell
 have k4:W.cell? ⟨w.heap.size,4,none⟩=some (.slice B.ga B.gs.length B.gc):=by subst hW;go_cell
 have hBW:Below w.heap.size w W:=by subst hW;go_grown
 rw [hW]
 clear hW
 go_loopw [6] (fun i wr=>∃k:Nat,i=.int .i64 k∧k≤8∧Below W.heap.size W wr∧Hid (yT B g k=yT B g 0)) (fun i _=>8 - (intOf i).toNat)
 case atStart=>exact ⟨0,rfl,by omega,Below.refl _ _,Lib.hid rfl⟩
 case round =>
  obtain ⟨k,rfl,hk,hBr,HE⟩:=hrel
  have k0:=qb _ hBr k0
  have k1:=qb _ hBr k1
  have k2:=qb _ hBr k2
  have k3:=qb _ hBr k3
  have k4:=qb _ hBr k4
  by_cases hlt:k < 8
  ·have hfi:=HF.out k (by omega) wr (bcl hBW hBr)
   by_cases hb:jG B g k=true
   ·simp only [hb] at hfi
    go_wp2_with (go_at_call 56;(with_reducible refine hfi.mono ?_);rintro e w1 ⟨rfl,hB1⟩)
    go_ret
    refine ⟨?_,bcl (Below.call hBW hBr (Nat.le_refl _)) hB1⟩
    rw [← HR.out];unfold yP;rw [← HE.out,Zz hlt hb];rfl
   ·have hb:jG B g k=false:=by simpa using hb
    simp only [hb] at hfi
    go_wp2_with (go_at_call 56;(with_reducible refine hfi.mono ?_);rintro e w1 ⟨rfl,hB1⟩)
    go_roundw
    case rel=>exact ⟨k+1,rfl,by omega,bcl hBr hB1,Lib.hid (by rw [← YD hlt hb];exact HE.out)⟩
    case measure=>simp [intOf];omega
  ·obtain rfl:k=8:=by omega
   go_wp2
   go_ret
   refine ⟨?_,bcl hBW hBr⟩
   rw [← HR.out];unfold yP;rw [← HE.out];rfl
def BytesAt (w:World) (b o:Nat) (l:List UInt8):Prop:=∀(i:Nat) (x:UInt8),l[i]? = some x→w.cell? ⟨b,o+i,none⟩=some (.int .u8 x.toNat)
set_option maxHeartbeats 1000000 in
theorem XY (fid:FuncId) (bound:Array Value) (hf:∀(args:Array Value) (w:World),(callFunc fid args).run qf w=.ok (.enter fid args) w) (p:UInt8→Bool) (l:List UInt8) (a:Option Addr) (c:Nat) (hlen:l.length≤1000) (w:World) (hQ:1≤l.length→∃b o,a=some ⟨b,o,none⟩∧BytesAt w b o l)
 (hcall:∀x∈l,∀W,Below w.heap.size w W→Calls qf fid (#[.int .u8 x.toNat] ++ bound) W fun e w'=>e=.returned (.bool (p x))∧Below W.heap.size W w') :
 Calls qf 159 #[.slice a l.length c,.func (.func fid) #[] bound] w fun e w'=>(∃n:Int,e=.returned (.int .i64 n)∧((0≤n)↔l.any p=true)∧n≤1000)∧Below w.heap.size w w':=by
 go_enter s159,ntmps159
 go_wp2
 go_loopw [8] (fun i wr=>∃k:Nat,i=.int .i64 k∧k≤l.length∧Below w.heap.size w wr∧Hid ((l.take k).any p=false)) (fun i _=>l.length - (intOf i).toNat)
 case atStart=>exact ⟨0,rfl,Nat.zero_le _,by go_grown,Lib.hid (by simp)⟩
 case round =>
  obtain ⟨k,rfl,hk,hB,HN⟩:=hrel
  by_cases hlt:k < l.length
  ·obtain ⟨b,o,rfl,hP⟩:=hQ (by omega)
   obtain ⟨x,hx⟩:∃x,l[k]? = some x:=⟨l[k],by simp [hlt]⟩
   have hm:x∈l:=List.mem_of_getElem? hx
   have c0:=hP k x hx
   have c0:=qb _ hB c0
   have hcall:=hcall x hm wr hB
   have HX:=Lib.hid hx
   clear hP hx hm
   obtain ⟨r,hr⟩:∃r,p x=r:=⟨_,rfl⟩
   rw [hr] at hcall
   have HR:=Lib.hid hr
   clear hr
   obtain ⟨args,hargs⟩:∃args,(#[Value.int .u8 (x.toNat:Int)] ++ bound)=args:=⟨_,rfl⟩
   rw [hargs] at hcall
   cases r with
   | true =>
     go_wp2_with ((first | (rw [hargs]) | skip);(with_reducible refine hcall.mono ?_);rintro e w1 ⟨rfl,hB1⟩)
     go_ret
     refine ⟨⟨k,rfl,⟨fun _=>QV p HX.out HR.out,fun _=>Int.natCast_nonneg k⟩,by omega⟩,bcl hB hB1⟩
   | false =>
     go_wp2_with ((first | (rw [hargs]) | skip);(with_reducible refine hcall.mono ?_);rintro e w1 ⟨rfl,hB1⟩)
     go_roundw
     case rel=>exact ⟨k+1,rfl,by omega,bcl hB hB1,Lib.hid (by rw [any_take_succ p HX.out HN.out];exact HR.out)⟩
     case measure=>simp [intOf];omega
  ·obtain rfl:k=l.length:=by omega
   have hany:=HN.out
   rw [List.take_length] at hany
   have HA:=Lib.hid hany
   clear hany
   go_wp2
   go_ret
   refine ⟨⟨-1,rfl,⟨fun h=>absurd h (by decide),fun h=>?_⟩,by omega⟩,hB⟩
   rw [HA.out] at h;cases h
set_option maxHeartbeats 1000000 in
theorem ZL (fid:FuncId) (bound:Array Value) (hf:∀(args:Array Value) (w:World),(callFunc fid args).run qf w=.ok (.enter fid args) w) (p:UInt8→Bool) (l:List UInt8) (a:Option Addr) (c:Nat) (hlen:l.length≤1000) (w:World) (hQ:1≤l.length→∃b o,a=some ⟨b,o,none⟩∧BytesAt w b o l)
 (hcall:∀x∈l,∀W,Below w.heap.size w W→Calls qf fid (#[.int .u8 x.toNat] ++ bound) W fun e w'=>e=.returned (.bool (p x))∧Below W.heap.size W w') :
 Calls qf 156 #[.slice a l.length c,.func (.func fid) #[] bound] w fun e w'=>e=.returned (.bool (l.any p))∧Below w.heap.size w w':=by
 have hI:=XY fid bound hf p l a c hlen w hQ hcall
 clear hcall hQ
 obtain ⟨r,hr⟩:∃r,l.any p=r:=⟨_,rfl⟩
 simp only [hr] at hI ⊢
 go_enter s156,ntmps156
 go_wp2_with (go_at_call 159;(with_reducible refine hI.mono ?_);rintro e w1 ⟨⟨n,rfl,hn,hn2⟩,hB1⟩)
 go_ret
 refine ⟨?_,hB1⟩
 cases r <;> simp at hn <;> simp <;> omega
def xI (c:UInt8):Bool:=!btw c.toNat 97 122 && !btw c.toNat 48 57
theorem qaY (x:UInt8) (w:World):Calls qf 157 #[.int .u8 x.toNat] w fun e w'=>e=.returned (.bool (xI x))∧Below w.heap.size w w':=by
 have hb1:=zX (x.toNat:Int) 97 122
 have hb2:=zX (x.toNat:Int) 48 57
 have hx:(x.toNat:Int)≤255:=by have:=x.toNat_lt;omega
 have hx0:(0:Int)≤x.toNat:=Int.natCast_nonneg _
 unfold xI
 cases h1:btw (x.toNat:Int) 97 122 with
 | true =>
   rw [h1] at hb1
   go_enter s157,ntmps157
   go_wp2_with (go_at_call 65;(with_reducible refine (hb1 _).mono ?_);rintro e w1 ⟨rfl,rfl⟩)
   go_ret
   exact ⟨rfl,by go_grown⟩
 | false =>
   rw [h1] at hb1
   cases h2:btw (x.toNat:Int) 48 57 <;> rw [h2] at hb2
   all_goals
    go_enter s157,ntmps157
    go_wp2_with (first | (go_at_call 65;(with_reducible refine (hb1 _).mono ?_);rintro e w1 ⟨rfl,rfl⟩) | (go_at_call 65;(with_reducible refine (hb2 _).mono ?_);rintro e w1 ⟨rfl,rfl⟩))
    go_ret
    exact ⟨rfl,by go_grown⟩
theorem JP (s:ByteArray) (h:0 < s.size):s[0]'h=s.data.toList.headD 0:=by
 obtain ⟨⟨l⟩⟩:=s
 cases l with
 | nil=>simp [ByteArray.size] at h
 | cons a l=>rfl
theorem conv_any (s:ByteArray) (w:World):∃cap W1,(convert 9 181 (.string s)).run qf w=.ok (.slice (some ⟨w.heap.size,0,none⟩) s.size cap) W1∧Below w.heap.size w W1∧BytesAt W1 w.heap.size 0 s.data.toList :=
 ⟨_,_,Lib.run_convert_string_bytes w _ _ 5 s ((qY _).trans Tryz.underlying9) ((qY _).trans Tryz.underlying181) ((qY _).trans Tryz.underlying5),Joins.below_bytesWorld _ w _ s (Nat.le_refl _),fun i x hx=>by
   have hi:i < s.size:=by have:=(List.getElem?_eq_some_iff.1 hx).1;simpa using this
   rw [Nat.zero_add,Lib.bytesWorld_cell w _ s i hi,List.getD_eq_getElem?_getD,hx];rfl⟩
def jy (s:ByteArray):Bool:=(1≤s.size && s.size≤9) && btw (s.data.toList.headD 0).toNat 97 122 && !s.data.toList.any xI
set_option maxHeartbeats 1000000 in
set_option maxRecDepth 100000 in
theorem qcM (s:ByteArray) (hs:s.size≤100) (w:World):Calls qf 152 #[.string s] w fun e w'=>e=.returned (.bool (jy s))∧Below w.heap.size w w':=by
 by_cases h1:1≤s.size∧s.size≤9
 ·by_cases h2:97≤((s.data.toList.headD 0).toNat:Int)∧((s.data.toList.headD 0).toNat:Int)≤122
  ·have hN:jy s = !s.data.toList.any xI:=by
    unfold jy;rw [btw_t h2];simp [h1]
   rw [hN]
   obtain ⟨x,hx⟩:∃x,s.data.toList.headD 0=x:=⟨_,rfl⟩
   have hh:s[0]'(by omega)=x:=by rw [← hx];exact JP s (by omega)
   rw [hx] at h2
   have hx1:(x.toNat:Int)≤255:=by have:=x.toNat_lt;omega
   clear hx
   obtain ⟨cap,W1,hconv,hB1,hBy⟩:=conv_any s w
   have hcon:=ZL 157 #[] (fun args w=>c157 args w) xI s.data.toList (some ⟨w.heap.size,0,none⟩) cap (by simp;omega) W1 (fun _=>⟨_,_,rfl,hBy⟩) (fun x _ W _=>qaY x W)
   rw [show s.data.toList.length=s.size by simp] at hcon
   clear hBy
   obtain ⟨r,hr⟩:∃r,s.data.toList.any xI=r:=⟨_,rfl⟩
   rw [hr] at hcon ⊢
   clear hr
   go_enter s152,ntmps152
   go_wp2_with (first | (go_at_call 65;(with_reducible refine (qC _ _ _ _ (by omega)).mono ?_);rintro e w1 ⟨rfl,rfl⟩) | (go_at_call 156;(with_reducible refine hcon.mono ?_);rintro e w2 ⟨rfl,hB2⟩))
   go_ret
   exact ⟨rfl,bcl hB1 hB2⟩
  ·have hN:jy s=false:=by
    unfold jy;rw [btw_f h2];simp
   rw [hN]
   obtain ⟨x,hx⟩:∃x,s.data.toList.headD 0=x:=⟨_,rfl⟩
   have hh:s[0]'(by omega)=x:=by rw [← hx];exact JP s (by omega)
   rw [hx] at h2
   have hx1:(x.toNat:Int)≤255:=by have:=x.toNat_lt;omega
   clear hx
   go_enter s152,ntmps152
   go_wp2_with (first | (go_at_call 65;(with_reducible refine (qC _ _ _ _ (by omega)).mono ?_);rintro e w1 ⟨rfl,rfl⟩) | (go_at_call 65;(with_reducible refine (qU _ _ _ _ h2).mono ?_);rintro e w1 ⟨rfl,rfl⟩))
   go_ret
   exact ⟨rfl,by go_grown⟩
 ·have hN:jy s=false:=by
   unfold jy
   by_cases a:1≤s.size
   ·have b:¬ s.size≤9:=fun b=>h1 ⟨a,b⟩
    simp [b]
   ·simp [a]
  rw [hN]
  go_enter s152,ntmps152
  go_wp2_with (first | (go_at_call 65;(with_reducible refine (qU _ _ _ _ (by omega)).mono ?_);rintro e w1 ⟨rfl,rfl⟩))
  go_ret
  exact ⟨rfl,by go_grown⟩
def Jw (B:Bk):Prop:=Lim B.lim∧(0≤B.growth∧B.growth≤100)∧1≤B.hours∧B.hours≤3
instance (B:Bk):Decidable (Jw B):=by unfold Jw;infer_instance
def zJ (B:Bk):Int:=if Jw B then 0 else 1
set_option maxHeartbeats 1000000 in
theorem qbe (B:Bk) (w:World):Calls qf 150 #[bv B] w fun e w'=>e=.returned (.int .i64 (zJ B))∧Below w.heap.size w w':=by
 obtain ⟨lim,gr,hr,gs,ga,gc⟩:=B
 simp only [bv]
 by_cases h1:Lim lim
 ·have hli:=fun W=>Qx lim W h1
  simp only [fv] at hli
  by_cases h2:0≤gr∧gr≤100
  ·by_cases h3:1≤hr∧hr≤3
   ·rw [show zJ ⟨lim,gr,hr,gs,ga,gc⟩=0 from if_pos ⟨h1,h2,h3⟩]
    go_enter s150,ntmps150
    go_wp2_with (first | (go_at_call 91;(with_reducible refine (hli _).mono ?_);rintro e w1 ⟨rfl,hB1⟩;(first | (replace hB:=bcl (by with_reducible assumption) hB1) | (replace hB:=bcl (by go_grown) hB1) | (have hB:=hB1));(try clear hc hg hz);obtain ⟨hc,hg⟩:=qx hB;have hz:=hB.size;clear hB1;(try simp at hz);(try have hlt0:w.heap.size < w1.heap.size:=by omega)) | (go_at_call 65;(with_reducible refine (qC _ _ _ _ h2).mono ?_);rintro e w1 ⟨rfl,rfl⟩) | (go_at_call 65;(with_reducible refine (qC _ _ _ _ h3).mono ?_);rintro e w1 ⟨rfl,rfl⟩))
    go_ret
    exact ⟨rfl,bcl (w:=w) (by go_grown) hB⟩
   ·rw [show zJ ⟨lim,gr,hr,gs,ga,gc⟩=1 from if_neg (fun h=>h3 h.2.2)]
    go_enter s150,ntmps150
    go_wp2_with (first | (go_at_call 91;(with_reducible refine (hli _).mono ?_);rintro e w1 ⟨rfl,hB1⟩;(first | (replace hB:=bcl (by with_reducible assumption) hB1) | (replace hB:=bcl (by go_grown) hB1) | (have hB:=hB1));(try clear hc hg hz);obtain ⟨hc,hg⟩:=qx hB;have hz:=hB.size;clear hB1;(try simp at hz);(try have hlt0:w.heap.size < w1.heap.size:=by omega)) | (go_at_call 65;(with_reducible refine (qC _ _ _ _ h2).mono ?_);rintro e w1 ⟨rfl,rfl⟩) | (go_at_call 65;(with_reducible refine (qU _ _ _ _ h3).mono ?_);rintro e w1 ⟨rfl,rfl⟩))
    go_ret
    exact ⟨rfl,bcl (w:=w) (by go_grown) hB⟩
  ·rw [show zJ ⟨lim,gr,hr,gs,ga,gc⟩=1 from if_neg (fun h=>h2 h.2.1)]
   go_enter s150,ntmps150
   go_wp2_with (first | (go_at_call 91;(with_reducible refine (hli _).mono ?_);rintro e w1 ⟨rfl,hB1⟩;(first | (replace hB:=bcl (by with_reducible assumption) hB1) | (replace hB:=bcl (by go_grown) hB1) | (have hB:=hB1));(try clear hc hg hz);obtain ⟨hc,hg⟩:=qx hB;have hz:=hB.size;clear hB1;(try simp at hz);(try have hlt0:w.heap.size < w1.heap.size:=by omega)) | (go_at_call 65;(with_reducible refine (qU _ _ _ _ h2).mono ?_);rintro e w1 ⟨rfl,rfl⟩))
   go_ret
   exact ⟨rfl,bcl (w:=w) (by go_grown) hB⟩
 ·have hli:=fun W=>Ze lim W h1
  simp only [fv] at hli
  rw [show zJ ⟨lim,gr,hr,gs,ga,gc⟩=1 from if_neg (fun h=>h1 h.1)]
  go_enter s150,ntmps150
  go_wp2_with (first | (go_at_call 91;(with_reducible refine (hli _).mono ?_);rintro e w1 ⟨rfl,hB1⟩;(first | (replace hB:=bcl (by with_reducible assumption) hB1) | (replace hB:=bcl (by go_grown) hB1) | (have hB:=hB1));(try clear hc hg hz);obtain ⟨hc,hg⟩:=qx hB;have hz:=hB.size;clear hB1;(try simp at hz);(try have hlt0:w.heap.size < w1.heap.size:=by omega)))
  go_ret
  exact ⟨rfl,bcl (w:=w) (by go_grown) hB⟩
def zw (gs:List Grp) (hours:Int) (i:Nat) (g:Grp):Int :=
 if jy g.name=false then 4 else if ((gs.take i).any fun o=>o.name.toList == g.name.toList)=true then 5 else if btw g.trunks 0 7=false then 1
 else if (g.traffic.length:Int)≠hours then 2 else if (g.traffic.any fun x => !decide (yj x))=true then 1 else 0
def qP (f:Nat→Grp→Int):Nat→List Grp→Int
 | _,[]=>0
 | i,g :: l=>if f i g≠0 then f i g else qP f (i+1) l
def yN (B:Bk):Int:=if 1≤B.gs.length∧B.gs.length≤4 then qP (zw B.gs B.hours) 0 B.gs else 2
theorem jH (f:Nat→Grp→Int) {l:List Grp} {k:Nat} {g:Grp} (h:l[k]? = some g):qP f k (l.drop k)=if f k g≠0 then f k g else qP f (k+1) (l.drop (k+1)):=by
 obtain ⟨hk,rfl⟩:=List.getElem?_eq_some_iff.1 h
 rw [List.drop_eq_getElem_cons hk]
 rfl
set_option maxHeartbeats 4000000 in
set_option maxRecDepth 100000 in
theorem qcG (B:Bk) (w:World) (h:BookAt w B):Calls qf 151 #[bv B] w fun e w'=>e=.returned (.int .i64 (yN B))∧Below w.heap.size w w':=by
 obtain ⟨R,hR⟩:∃R,yN B=R:=⟨_,rfl⟩
 rw [hR]
 obtain ⟨lim,gr,hr,gs,ga,gc⟩:=B
 simp only [bv]
 simp only [yN] at hR
 by_cases hlen:1≤gs.length∧gs.length≤4
 ·rw [if_pos hlen] at hR
  have HR:=Lib.hid hR
  clear hR
  obtain ⟨b,o,hga,hcs⟩:=h.row hlen.1
  have hsm:=h.small.2
  have htr:=h.traf
  have hcap:=h.cap
  simp only at hga hsm htr hcs hcap
  subst hga
  have HC:=Lib.hid hcs
  have HS:=Lib.hid hsm
  have HT:=Lib.hid htr
  clear h hcs hsm htr
  go_enter s151,ntmps151
  go_wp2_with (go_at_call 65;(with_reducible refine (qC _ _ _ _ (by omega)).mono ?_);rintro e w1 ⟨rfl,rfl⟩)
  obtain ⟨W,hW⟩:∃W,w.alloc (Obj.cells #[.int .i64 lim.1,.int .i64 lim.2,.int .i64 gr,.int .i64 hr,.slice (some ⟨b,o,none⟩) gs.length gc] 67)=W:=⟨_,rfl⟩
  have k3:W.cell? ⟨w.heap.size,3,none⟩=some (.int .i64 hr):=by subst hW;go_cell
  have k4:W.cell? ⟨w.heap.size,4,none⟩=some (.slice (some ⟨b,o,none⟩) gs.length gc):=by subst hW;go_cell
  have hBW:Below w.heap.size w W:=by subst hW;go_grown
  rw [hW]
  clear hW
  go_loopw [15] (fun i wr=>∃k:Nat,i=.int .i64 k∧k≤gs.length∧Below W.heap.size W wr∧Hid (qP (zw gs hr) k (gs.drop k)=R)) (fun i _=>gs.length - (intOf i).toNat)
  case atStart=>exact ⟨0,rfl,by omega,Below.refl _ _,HR⟩
  case round =>
   obtain ⟨k,rfl,hk,hBr,HE⟩:=hrel
   have k3:=qb _ hBr k3
   have k4:=qb _ hBr k4
   have hBw:=bcl hBW hBr
   have hsz:=hBw.size
   have hsz2:w.heap.size < wr.heap.size:=lt_of_cell k4
   by_cases hlt:k < gs.length
   ·have hkc:(k:Int)≤(gc:Int):=by omega
    obtain ⟨g,hg⟩:∃g,gs[k]? = some g:=⟨gs[k],by simp [hlt]⟩
    have hm:g∈gs:=List.mem_of_getElem? hg
    obtain ⟨c0,c1,c2⟩:=HC.out k g hg
    have c0:=qb _ hBw c0
    have c1:=qb _ hBw c1
    have c2:=qb _ hBw c2
    have hs1:=HS.out g hm
    have hnm:=fun W=>qcM g.name hs1.2 W
    have htk:=fun W=>jO g.trunks W
    have htf:=fun (W:World) (hB:Below w.heap.size w W)=>yM 155 #[] (fun args w=>c155 args w) (fun x => !decide (yj x)) g.traffic g.ta g.tc (by omega) W ((HT.out g hm).keep hB) (fun x _ W' _=>qaT x W')
    have hco:=fun (W:World) (hB:Below w.heap.size w W) (hc:W.cell? ⟨wr.heap.size,0,none⟩=some (.string g.name))=>Yr 154 #[.pointer (some ⟨wr.heap.size,0,none⟩)] (fun args w=>c154 args w) (fun o=>o.name.toList == g.name.toList) (gs.take k) (some ⟨b,o,none⟩) gc (by rw [List.length_take];omega) W (fun _=>⟨b,o,rfl,(HC.out.keep hB).take k⟩) (fun x _ W' hB'=>qaS x g.name _ W' (qb _ hB' hc))
    rw [List.length_take,Nat.min_eq_left hk] at hco
    have hA:=HE.out
    rw [jH _ hg] at hA
    obtain ⟨r1,h1⟩:∃r,jy g.name=r:=⟨_,rfl⟩
    obtain ⟨r2,h2⟩:∃r,((gs.take k).any fun o=>o.name.toList == g.name.toList)=r:=⟨_,rfl⟩
    obtain ⟨r3,h3⟩:∃r,btw g.trunks 0 7=r:=⟨_,rfl⟩
    obtain ⟨r5,h5⟩:∃r,(g.traffic.any fun x => !decide (yj x))=r:=⟨_,rfl⟩
    have hga:zw gs hr k g=if r1=false then 4 else if r2=true then 5 else if r3=false then 1 else if (g.traffic.length:Int)≠hr then 2 else if r5=true then 1 else 0:=by unfold zw;rw [h1,h2,h3,h5]
    rw [hga] at hA
    simp only [h1] at hnm
    simp only [h2] at hco
    simp only [h3] at htk
    simp only [h5] at htf
    clear hga h1 h2 h3 h5 hg hm hs1
    have fin:∀{q:Int} {w1:World},R=q→Below w.heap.size w w1→Ending.returned (.int .i64 q)=Ending.returned (.int .i64 R)∧Below w.heap.size w w1:=fun e hb=>⟨by rw [e],hb⟩
    cases r1 with
    | false =>
      simp at hA
      have HA:=Lib.hid hA
      clear hA
      go_wp2_with (first | (go_at_call 152;(with_reducible refine (hnm _).mono ?_);rintro e w1 ⟨rfl,hB1⟩;(first | (with_reducible replace hB:=bcl hB hB1) | (have hB:=hB1));(try clear hc hg hz);obtain ⟨hc,hg⟩:=qx hB;have hz:=hB.size;clear hB1;(try simp at hz);(try clear hBx);have hBx:=bcl (w:=w) (by go_grown) hB) | (go_at_call 153;refine (hco _ (by first | exact hBx | go_grown) (by go_cell)).mono ?_;rintro e w1 ⟨rfl,hB1⟩;(first | (with_reducible replace hB:=bcl hB hB1) | (have hB:=hB1));(try clear hc hg hz);obtain ⟨hc,hg⟩:=qx hB;have hz:=hB.size;clear hB1;(try simp at hz);(try clear hBx);have hBx:=bcl (w:=w) (by go_grown) hB) | (go_at_call 85;(with_reducible refine (htk _).mono ?_);rintro e w1 ⟨rfl,rfl⟩) | (go_at_call 69;(with_reducible refine (htf _ (by first | exact hBx | go_grown)).mono ?_);rintro e w1 ⟨rfl,hB1⟩;(first | (with_reducible replace hB:=bcl hB hB1) | (have hB:=hB1));(try clear hc hg hz);obtain ⟨hc,hg⟩:=qx hB;have hz:=hB.size;clear hB1;(try simp at hz);(try clear hBx);have hBx:=bcl (w:=w) (by go_grown) hB))
      go_ret
      exact fin HA.out.symm hBx
    | true =>
      cases r2 with
      | true =>
        simp at hA
        have HA:=Lib.hid hA
        clear hA
        go_wp2_with (first | (go_at_call 152;(with_reducible refine (hnm _).mono ?_);rintro e w1 ⟨rfl,hB1⟩;(first | (with_reducible replace hB:=bcl hB hB1) | (have hB:=hB1));(try clear hc hg hz);obtain ⟨hc,hg⟩:=qx hB;have hz:=hB.size;clear hB1;(try simp at hz);(try clear hBx);have hBx:=bcl (w:=w) (by go_grown) hB) | (go_at_call 153;refine (hco _ (by first | exact hBx | go_grown) (by go_cell)).mono ?_;rintro e w1 ⟨rfl,hB1⟩;(first | (with_reducible replace hB:=bcl hB hB1) | (have hB:=hB1));(try clear hc hg hz);obtain ⟨hc,hg⟩:=qx hB;have hz:=hB.size;clear hB1;(try simp at hz);(try clear hBx);have hBx:=bcl (w:=w) (by go_grown) hB) | (go_at_call 85;(with_reducible refine (htk _).mono ?_);rintro e w1 ⟨rfl,rfl⟩) | (go_at_call 69;(with_reducible refine (htf _ (by first | exact hBx | go_grown)).mono ?_);rintro e w1 ⟨rfl,hB1⟩;(first | (with_reducible replace hB:=bcl hB hB1) | (have hB:=hB1));(try clear hc hg hz);obtain ⟨hc,hg⟩:=qx hB;have hz:=hB.size;clear hB1;(try simp at hz);(try clear hBx);have hBx:=bcl (w:=w) (by go_grown) hB))
        go_ret
        exact fin HA.out.symm hBx
      | false =>
        cases r3 with
        | false =>
          simp at hA
          have HA:=Lib.hid hA
          clear hA
          go_wp2_with (first | (go_at_call 152;(with_reducible refine (hnm _).mono ?_);rintro e w1 ⟨rfl,hB1⟩;(first | (with_reducible replace hB:=bcl hB hB1) | (have hB:=hB1));(try clear hc hg hz);obtain ⟨hc,hg⟩:=qx hB;have hz:=hB.size;clear hB1;(try simp at hz);(try clear hBx);have hBx:=bcl (w:=w) (by go_grown) hB) | (go_at_call 153;refine (hco _ (by first | exact hBx | go_grown) (by go_cell)).mono ?_;rintro e w1 ⟨rfl,hB1⟩;(first | (with_reducible replace hB:=bcl hB hB1) | (have hB:=hB1));(try clear hc hg hz);obtain ⟨hc,hg⟩:=qx hB;have hz:=hB.size;clear hB1;(try simp at hz);(try clear hBx);have hBx:=bcl (w:=w) (by go_grown) hB) | (go_at_call 85;(with_reducible refine (htk _).mono ?_);rintro e w1 ⟨rfl,rfl⟩) | (go_at_call 69;(with_reducible refine (htf _ (by first | exact hBx | go_grown)).mono ?_);rintro e w1 ⟨rfl,hB1⟩;(first | (with_reducible replace hB:=bcl hB hB1) | (have hB:=hB1));(try clear hc hg hz);obtain ⟨hc,hg⟩:=qx hB;have hz:=hB.size;clear hB1;(try simp at hz);(try clear hBx);have hBx:=bcl (w:=w) (by go_grown) hB))
          go_ret
          exact fin HA.out.symm hBx
        | true =>
          by_cases h4:(g.traffic.length:Int)=hr
          ·cases r5 with
           | true =>
             simp [h4] at hA
             have HA:=Lib.hid hA
             clear hA
             have h4':((g.traffic.length:Int) != hr)=false:=by simp [h4]
             have H4:=Lib.hid h4
             clear h4
             go_wp2_with (first | (go_at_call 152;(with_reducible refine (hnm _).mono ?_);rintro e w1 ⟨rfl,hB1⟩;(first | (with_reducible replace hB:=bcl hB hB1) | (have hB:=hB1));(try clear hc hg hz);obtain ⟨hc,hg⟩:=qx hB;have hz:=hB.size;clear hB1;(try simp at hz);(try clear hBx);have hBx:=bcl (w:=w) (by go_grown) hB) | (go_at_call 153;refine (hco _ (by first | exact hBx | go_grown) (by go_cell)).mono ?_;rintro e w1 ⟨rfl,hB1⟩;(first | (with_reducible replace hB:=bcl hB hB1) | (have hB:=hB1));(try clear hc hg hz);obtain ⟨hc,hg⟩:=qx hB;have hz:=hB.size;clear hB1;(try simp at hz);(try clear hBx);have hBx:=bcl (w:=w) (by go_grown) hB) | (go_at_call 85;(with_reducible refine (htk _).mono ?_);rintro e w1 ⟨rfl,rfl⟩) | (go_at_call 69;(with_reducible refine (htf _ (by first | exact hBx | go_grown)).mono ?_);rintro e w1 ⟨rfl,hB1⟩;(first | (with_reducible replace hB:=bcl hB hB1) | (have hB:=hB1));(try clear hc hg hz);obtain ⟨hc,hg⟩:=qx hB;have hz:=hB.size;clear hB1;(try simp at hz);(try clear hBx);have hBx:=bcl (w:=w) (by go_grown) hB))
             go_ret
             exact fin HA.out.symm hBx
           | false =>
             simp [h4] at hA
             have HA:=Lib.hid hA
             clear hA
             have h4':((g.traffic.length:Int) != hr)=false:=by simp [h4]
             have H4:=Lib.hid h4
             clear h4
             go_wp2_with (first | (go_at_call 152;(with_reducible refine (hnm _).mono ?_);rintro e w1 ⟨rfl,hB1⟩;(first | (with_reducible replace hB:=bcl hB hB1) | (have hB:=hB1));(try clear hc hg hz);obtain ⟨hc,hg⟩:=qx hB;have hz:=hB.size;clear hB1;(try simp at hz);(try clear hBx);have hBx:=bcl (w:=w) (by go_grown) hB) | (go_at_call 153;refine (hco _ (by first | exact hBx | go_grown) (by go_cell)).mono ?_;rintro e w1 ⟨rfl,hB1⟩;(first | (with_reducible replace hB:=bcl hB hB1) | (have hB:=hB1));(try clear hc hg hz);obtain ⟨hc,hg⟩:=qx hB;have hz:=hB.size;clear hB1;(try simp at hz);(try clear hBx);have hBx:=bcl (w:=w) (by go_grown) hB) | (go_at_call 85;(with_reducible refine (htk _).mono ?_);rintro e w1 ⟨rfl,rfl⟩) | (go_at_call 69;(with_reducible refine (htf _ (by first | exact hBx | go_grown)).mono ?_);rintro e w1 ⟨rfl,hB1⟩;(first | (with_reducible replace hB:=bcl hB hB1) | (have hB:=hB1));(try clear hc hg hz);obtain ⟨hc,hg⟩:=qx hB;have hz:=hB.size;clear hB1;(try simp at hz);(try clear hBx);have hBx:=bcl (w:=w) (by go_grown) hB))
             go_roundw
             case rel=>exact ⟨k+1,rfl,by omega,bcl hBr ((Below.call (B:=wr.heap.size) (by go_grown) hB (by simp))),HA⟩
             case measure=>simp [intOf];omega
          ·simp [h4] at hA
           have HA:=Lib.hid hA
           clear hA
           have h4':((g.traffic.length:Int) != hr)=true:=by simp [h4]
           go_wp2_with (first | (go_at_call 152;(with_reducible refine (hnm _).mono ?_);rintro e w1 ⟨rfl,hB1⟩;(first | (with_reducible replace hB:=bcl hB hB1) | (have hB:=hB1));(try clear hc hg hz);obtain ⟨hc,hg⟩:=qx hB;have hz:=hB.size;clear hB1;(try simp at hz);(try clear hBx);have hBx:=bcl (w:=w) (by go_grown) hB) | (go_at_call 153;refine (hco _ (by first | exact hBx | go_grown) (by go_cell)).mono ?_;rintro e w1 ⟨rfl,hB1⟩;(first | (with_reducible replace hB:=bcl hB hB1) | (have hB:=hB1));(try clear hc hg hz);obtain ⟨hc,hg⟩:=qx hB;have hz:=hB.size;clear hB1;(try simp at hz);(try clear hBx);have hBx:=bcl (w:=w) (by go_grown) hB) | (go_at_call 85;(with_reducible refine (htk _).mono ?_);rintro e w1 ⟨rfl,rfl⟩) | (go_at_call 69;(with_reducible refine (htf _ (by first | exact hBx | go_grown)).mono ?_);rintro e w1 ⟨rfl,hB1⟩;(first | (with_reducible replace hB:=bcl hB hB1) | (have hB:=hB1));(try clear hc hg hz);obtain ⟨hc,hg⟩:=qx hB;have hz:=hB.size;clear hB1;(try simp at hz);(try clear hBx);have hBx:=bcl (w:=w) (by go_grown) hB))
           go_ret
           exact fin HA.out.symm hBx
   ·obtain rfl:k=gs.length:=by omega
    have hA:=HE.out
    rw [List.drop_length] at hA
    have HA:=Lib.hid hA
    clear hA
    go_wp2
    go_ret
    exact ⟨by rw [← HA.out];rfl,hBw⟩
 ·rw [if_neg hlen] at hR
  have HR:=Lib.hid hR
  clear hR
  go_enter s151,ntmps151
  go_wp2_with (go_at_call 65;(with_reducible refine (qU _ _ _ _ (by omega)).mono ?_);rintro e w1 ⟨rfl,rfl⟩)
  go_ret
  exact ⟨by rw [← HR.out];rfl,by go_grown⟩
end Go.Proofs.Tryz
