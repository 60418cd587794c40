/-
  Lemmas about the program and the machine (FanWait0 to FanWait0), upon which the last text of this claim rests; no condition.
-/
import Derived.Test.YtnpjncjnmpfgpaaGreatDoorG14
set_option linter.unusedSimpArgs false
set_option linter.unusedVariables false
section
namespace Go.Fan
open Go Go.Conc Go.ConcN Go.RowKit Go.Conc.Lib Go.ConcR.Gen Go.ConcN.Gen
open Go.ConcR (KK wgBlock WgAt stA smA rd wr mk DC0)
variable {L:WgLink}
def Head (L:WgLink) (Wg:Nat) (c:Frame) (cs:List Frame) (g:Goroutine) (w:World):Prop :=
 ∃T:Array Value,g=G ((base L.wait).at ⟨T,[]⟩ [.code (L7 L),.inLoop (L7 L),.inBlock 0]) (c :: cs)∧T.size=84∧T[0]? = some (.pointer (some ⟨Wg,0,none⟩))∧WgLive L.tWg Wg w
section
variable {P:Program} {main:Bool} {Wg:Nat} {c:Frame} {cs:List Frame}
set_option maxRecDepth 100000 in
set_option maxHeartbeats 4000000 in
theorem waitIn (H:WgLib P L) (w:World) (hF:WgLive L.tWg Wg w) :
 qG P main L.tWg Wg (ZR P main L.tWg Wg .disable (Head L Wg c cs)) (G ((base L.wait).at ⟨#[.pointer (some ⟨Wg,0,none⟩),undef,undef,undef,undef,undef,undef,undef,undef,undef,undef,undef,undef,undef,undef,undef,undef,undef,undef,undef,undef,undef,undef,undef,undef,undef,undef,undef,undef,undef,undef,undef,undef,undef,undef,undef,undef,undef,undef,undef,undef,undef,undef,undef,undef,undef,undef,undef,undef,undef,undef,undef,undef,undef,undef,undef,undef,undef,undef,undef,undef,undef,undef,undef,undef,undef,undef,undef,undef,undef,undef,undef,undef,undef,undef,undef,undef,undef,undef,undef,undef,undef,undef,undef],[]⟩ [.code (body_wait L)]) (c :: cs)) w:=by
 lib_facts
 simp only [body_wait,waitFn,Option.getD_some]
 refine ⟨60,?_⟩
 repeat (first
  | u_c stepG_seq rl hF
  | u_cond true rl hF
  | u_cond false rl hF
  | u_c stepG_skip rl hF
  | u_c stepG_region_end rl hF
  | u_reg rl hF
  | u_op rl hF)
 refine Goes.stop (fun w₁ h₁=>?_)
 replace hF:=rl hF h₁
 clear h₁
 refine ⟨rfl,_,stepG_mark0 .disable (by simp) rfl rfl (by k_ne) rfl H.f_disable (x_disable_n L) (x_disable_b L) (x_disable_x L) (x_disable_f L),20,?_⟩
 walk_nrm
 u_c stepG_region_end rl hF
 u_c stepG_block rl hF
 u_c stepG_loop rl hF
 refine Goes.stop (fun w₂ h₂=>?_)
 exact ⟨_,rfl,by simp,by simp,rl hF h₂⟩
end
end Go.Fan
end
