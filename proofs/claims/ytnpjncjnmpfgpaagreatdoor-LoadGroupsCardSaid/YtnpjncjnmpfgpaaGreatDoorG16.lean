/-
  Lemmas about the program and the machine (FanWait1 to FanWait1), upon which the last text of this claim rests; no condition.
-/
import Derived.Test.YtnpjncjnmpfgpaaGreatDoorG15
set_option linter.unusedSimpArgs false
set_option linter.unusedVariables false
section
namespace Go.Fan
open Go Go.Conc Go.ConcN Go.RowKit Go.Conc.Lib Go.ConcR.Gen Go.ConcN.Gen
open Go.ConcR (KK wgBlock WgAt stA smA rd wr mk DC0)
variable {L:WgLink}
section
variable {P:Program} {B0 Wg Ch:Nat} {S₀:Nat→Prop} {b₀:Frame} {a₀:Go.Act} {ops₀:Array Oper} {i₀:Nat} {rest₀:List Nat} {k₀:List Item} {cs:List Frame}
set_option maxRecDepth 100000 in
set_option maxHeartbeats 16000000 in
theorem waitRound (H:WgLib P L) (g:Goroutine) (w:World) (h:Head L Wg (b₀.at a₀ (.inRegion ops₀ (i₀ :: rest₀) :: k₀)) cs g w) :
 qG P false L.tWg Wg (CLook P ⟨B0,Wg,Ch,L.tWg,S₀⟩ (Head L Wg (b₀.at a₀ (.inRegion ops₀ (i₀ :: rest₀) :: k₀)) cs) (G (b₀.at (a₀.put ((ops₀[i₀]?).bind (·.dst)) (.tuple #[])) (.inRegion ops₀ rest₀ :: k₀)) cs)) g w:=by
 lib_facts
 obtain ⟨T,rfl,hT84,t0,hF⟩:=h
 obtain ⟨v0,v1,v2,v3,v4,v5,v6,v7,v8,v9,v10,v11,v12,v13,v14,v15,v16,v17,v18,v19,v20,v21,v22,v23,v24,v25,v26,v27,v28,v29,v30,v31,v32,v33,v34,v35,v36,v37,v38,v39,v40,v41,v42,v43,v44,v45,v46,v47,v48,v49,v50,v51,v52,v53,v54,v55,v56,v57,v58,v59,v60,v61,v62,v63,v64,v65,v66,v67,v68,v69,v70,v71,v72,v73,v74,v75,v76,v77,v78,v79,v80,v81,v82,v83,rfl⟩:=array84 T hT84
 simp only [List.getElem?_toArray,List.getElem?_cons_zero,Option.some.injEq] at t0
 subst t0
 refine ⟨60,?_⟩
 simp only [L7,body_wait,waitFn,Option.getD_some]
 u_c stepG_block rl hF
 u_c stepG_seq rl hF
 u_reg rl hF
 u_op rl hF
 u_op rl hF
 u_op rl hF
 u_call H.f_uLoad (nm_uLoad L) uLoadFn rl hF
 u_c stepG_seq rl hF
 u_reg rl hF
 u_op rl hF
 u_c stepG_region_end rl hF
 u_c stepG_seq rl hF
 u_reg rl hF
 u_op rl hF
 u_op rl hF
 u_op rl hF
 refine Goes.stop (fun w₁ h₁=>?_)
 replace hF:=rl hF h₁
 clear h₁
 refine ⟨rfl,fun v hv hw=>?_⟩
 rcases Nat.eq_zero_or_pos v with rfl | hvp
 ·replace hw:WgAt L.tWg Wg w₁ 0 0:=by simpa using hw
  refine ⟨_,stepG_load_atomic (v:=0) rfl rfl (by k_ne) rfl H.f_loadU64 (x_loadU64_n L) (x_loadU64_b L) (x_loadU64_x L) .u64 (x_loadU64_f L) rfl hw.cellSt,fun _=>⟨100,?_⟩,fun h=>absurd rfl h⟩
  clear hw
  walk_nrm
  u_op rl hF
  u_c stepG_region_end rl hF
  u_c stepG_ret' rl hF
  u_leave1 H.f_uLoad rl hF
  u_op rl hF
  u_c stepG_region_end rl hF
  u_c stepG_seq rl hF
  u_reg rl hF
  u_op rl hF
  u_op rl hF
  u_op rl hF
  u_op rl hF
  u_c stepG_region_end rl hF
  u_c stepG_seq rl hF
  u_reg rl hF
  u_op rl hF
  u_op rl hF
  u_op rl hF
  u_op rl hF
  u_c stepG_region_end rl hF
  u_c stepG_seq rl hF
  u_c stepG_seq rl hF
  u_reg rl hF
  u_op rl hF
  u_op rl hF
  u_c stepG_region_end rl hF
  u_cond true rl hF
  u_c stepG_seq rl hF
  u_cond true rl hF
  u_c stepG_seq rl hF
  u_reg rl hF
  refine Goes.stop (fun w₂ h₁=>?_)
  replace hF:=rl hF h₁
  clear h₁
  refine ⟨rfl,_,stepG_mark0 .enable (by simp) rfl rfl (by k_ne) rfl H.f_enable (x_enable_n L) (x_enable_b L) (x_enable_x L) (x_enable_f L),30,?_⟩
  walk_nrm
  u_c stepG_region_end rl hF
  u_reg rl hF
  u_op rl hF
  u_conv H.underlying_tWgP H.room_tWg (WgLive.cell0 hF).choose_spec rl hF
  refine Goes.stop (fun w₃ h₁=>?_)
  replace hF:=rl hF h₁
  clear h₁
  refine ⟨rfl,_,stepG_markAt .acquire (by simp) rfl rfl (by k_ne) rfl H.f_acquire (x_acquire_n L) (x_acquire_b L) (x_acquire_x L) (x_acquire_f L) (by simp [Go.Act.eval,stA]),40,?_⟩
  walk_nrm
  u_c stepG_region_end rl hF
  u_c stepG_seq rl hF
  u_c stepG_seq rl hF
  u_reg rl hF
  u_op rl hF
  u_op rl hF
  u_op rl hF
  u_op rl hF
  u_op rl hF
  u_op rl hF
  u_op rl hF
  u_op rl hF
  u_skip rl hF
  u_skip rl hF
  u_op rl hF
  u_c stepG_region_end rl hF
  u_cond false rl hF
  u_c stepG_skip rl hF
  u_c stepG_ret' rl hF
  u_leave0 H.f_wait rl hF
  exact Goes.stop fun _ _=>rfl
 ·obtain ⟨S,hS⟩:∃S:Int,(v:Int) * KK=S:=⟨_,rfl⟩
  have a1:S / 4294967296=(v:Int):=by rw [← hS];simp only [KK];omega
  have b1:bits .and .u64 S 2147483648=0:=by rw [← hS];have:=st_flag v 0 (by omega) (by omega);simpa [KK] using this
  have b2:bits .and .u64 S 2147483647=0:=by rw [← hS];have:=st_waiters v 0 (by omega) (by omega);simpa [KK] using this
  have c1:IntKind.i32.wrap (v:Int)=(v:Int):=by rw [IntKind.wrap_i32];omega
  have s1:IntKind.u64.wrap (S+1)=S+1:=by rw [IntKind.wrap_u64,← hS];simp only [KK];omega
  have q3:decide ((v:Int) < 0)=false:=decide_eq_false (by omega)
  have q4:decide (0 < (v:Int))=true:=decide_eq_true (by omega)
  have q5:((v:Int) == 0)=false:=by simp;omega
  have q6:decide ((v:Int)=0)=false:=decide_eq_false (by omega)
  simp only [hS] at hw
  refine ⟨_,stepG_load_atomic (v:=S) rfl rfl (by k_ne) rfl H.f_loadU64 (x_loadU64_n L) (x_loadU64_b L) (x_loadU64_x L) .u64 (x_loadU64_f L) rfl hw.cellSt,fun h0=>absurd h0 (by omega),fun _=>⟨100,?_⟩⟩
  clear hw
  walk_nrm
  u_op rl hF
  u_c stepG_region_end rl hF
  u_c stepG_ret' rl hF
  u_leave1 H.f_uLoad rl hF
  u_op rl hF
  u_c stepG_region_end rl hF
  u_c stepG_seq rl hF
  u_reg rl hF
  u_op rl hF
  u_op rl hF
  u_op rl hF
  u_op rl hF
  u_c stepG_region_end rl hF
  u_c stepG_seq rl hF
  u_reg rl hF
  u_op rl hF
  u_op rl hF
  u_op rl hF
  u_op rl hF
  u_c stepG_region_end rl hF
  u_c stepG_seq rl hF
  u_c stepG_seq rl hF
  u_reg rl hF
  u_op rl hF
  u_op rl hF
  u_c stepG_region_end rl hF
  u_cnd false rl hF
  u_c stepG_skip rl hF
  u_c stepG_seq rl hF
  u_reg rl hF
  u_op rl hF
  u_op rl hF
  u_op rl hF
  u_op rl hF
  u_op rl hF
  u_op rl hF
  u_call H.f_uCas (nm_uCas L) uCasFn rl hF
  u_c stepG_seq rl hF
  u_reg rl hF
  u_op rl hF
  u_c stepG_region_end rl hF
  u_c stepG_seq rl hF
  u_reg rl hF
  u_op rl hF
  u_op rl hF
  u_op rl hF
  u_op rl hF
  u_op rl hF
  refine Goes.stop (fun w₂ h₁=>?_)
  replace hF:=rl hF h₁
  clear h₁
  refine ⟨rfl,fun v' hv' hw=>⟨fun e=>?_,fun e=>?_⟩⟩
  ·subst e
   simp only [hS] at hw ⊢
   refine ⟨_,(stepG_cas_hit (v:=S) (n:=S+1) rfl rfl (by k_ne) rfl H.f_casU64 (x_casU64_n L) (x_casU64_b L) (x_casU64_x L) .u64 (x_casU64_f L) rfl rfl rfl hw.cellSt (hw.thaw 0)).trans (by rfl),70,?_⟩
   replace hF:WgLive L.tWg Wg (w₂.setCell (stA Wg) (.int .u64 (S+1))):=⟨_,_,hw.setSt _⟩
   clear hw
   walk_nrm
   u_op rl hF
   u_c stepG_region_end rl hF
   u_c stepG_ret' rl hF
   u_leave1 H.f_uCas rl hF
   u_c stepG_region_end rl hF
   u_cond true rl hF
   u_c stepG_seq rl hF
   u_c stepG_seq rl hF
   u_reg rl hF
   u_op rl hF
   u_op rl hF
   u_op rl hF
   u_op rl hF
   u_c stepG_region_end rl hF
   u_cond true rl hF
   u_reg rl hF
   u_op rl hF
   u_op rl hF
   u_op rl hF
   u_conv H.underlying_tPU32 H.room_tU32 (WgLive.cell1 hF).choose_spec rl hF
   refine Goes.stop (fun w₃ h₁=>?_)
   replace hF:=rl hF h₁
   clear h₁
   refine ⟨rfl,_,stepG_markAt .write (by simp) rfl rfl (by k_ne) rfl H.f_raceWrite (x_raceWrite_n L) (x_raceWrite_b L) (x_raceWrite_x L) (x_raceWrite_f L) (ad:=⟨Wg,1,none⟩) (by simp [Go.Act.eval]),60,?_⟩
   walk_nrm
   u_c stepG_region_end rl hF
   u_c stepG_seq rl hF
   u_reg rl hF
   u_op rl hF
   u_c stepG_region_end rl hF
   u_c stepG_seq rl hF
   u_c stepG_seq rl hF
   u_reg rl hF
   u_op rl hF
   u_op rl hF
   u_op rl hF
   u_op rl hF
   u_skip rl hF
   u_op rl hF
   u_c stepG_region_end rl hF
   u_cond false rl hF
   u_c stepG_skip rl hF
   u_c stepG_seq rl hF
   u_reg rl hF
   u_op rl hF
   u_op rl hF
   u_op rl hF
   u_op rl hF
   refine Goes.stop (fun w₄ h₁=>?_)
   replace hF:=rl hF h₁
   clear h₁
   refine ⟨rfl,rfl,fun ⟨st,hw⟩=>stepG_semacquire_wait rfl rfl rfl H.f_semacquire (x_semacquire_n L) (x_semacquire_b L) (x_semacquire_x L) (x_semacquire_f L) (by simp [Go.Act.eval,smA]) hw.cellSm,fun hf=>?_⟩
   refine ⟨_,(stepG_semacquire (n:=1) rfl rfl (by k_ne) rfl H.f_semacquire (x_semacquire_n L) (x_semacquire_b L) (x_semacquire_x L) (x_semacquire_f L) (by simp [Go.Act.eval,smA]) hf.cellSm (by k_ne) (hf.thaw 1)).trans (by rfl),60,?_⟩
   replace hF:WgLive L.tWg Wg (w₄.setCell (smA Wg) (.int .u32 0)):=⟨_,_,hf.setSm 0⟩
   clear hf
   walk_nrm
   u_c stepG_region_end rl hF
   u_c stepG_seq rl hF
   u_reg rl hF
   u_op rl hF
   u_op rl hF
   u_op rl hF
   u_call H.f_uLoad (nm_uLoad L) uLoadFn rl hF
   u_c stepG_seq rl hF
   u_reg rl hF
   u_op rl hF
   u_c stepG_region_end rl hF
   u_c stepG_seq rl hF
   u_reg rl hF
   u_op rl hF
   u_op rl hF
   u_op rl hF
   refine Goes.stop (fun w₅ h₁=>?_)
   replace hF:=rl hF h₁
   clear h₁
   refine ⟨rfl,fun hw=>⟨_,stepG_load_atomic (v:=0) rfl rfl (by k_ne) rfl H.f_loadU64 (x_loadU64_n L) (x_loadU64_b L) (x_loadU64_x L) .u64 (x_loadU64_f L) rfl hw.cellSt,60,?_⟩⟩
   clear hw
   walk_nrm
   u_op rl hF
   u_c stepG_region_end rl hF
   u_c stepG_ret' rl hF
   u_leave1 H.f_uLoad rl hF
   u_op rl hF
   u_op rl hF
   u_c stepG_region_end rl hF
   u_c stepG_seq rl hF
   u_cond true rl hF
   u_c stepG_seq rl hF
   u_reg rl hF
   refine Goes.stop (fun w₆ h₁=>?_)
   replace hF:=rl hF h₁
   clear h₁
   refine ⟨rfl,_,stepG_mark0 .enable (by simp) rfl rfl (by k_ne) rfl H.f_enable (x_enable_n L) (x_enable_b L) (x_enable_x L) (x_enable_f L),30,?_⟩
   walk_nrm
   u_c stepG_region_end rl hF
   u_reg rl hF
   u_op rl hF
   u_conv H.underlying_tWgP H.room_tWg (WgLive.cell0 hF).choose_spec rl hF
   refine Goes.stop (fun w₇ h₁=>?_)
   replace hF:=rl hF h₁
   clear h₁
   refine ⟨rfl,_,stepG_markAt .acquire (by simp) rfl rfl (by k_ne) rfl H.f_acquire (x_acquire_n L) (x_acquire_b L) (x_acquire_x L) (x_acquire_f L) (by simp [Go.Act.eval,stA]),40,?_⟩
   walk_nrm
   u_c stepG_region_end rl hF
   u_c stepG_seq rl hF
   u_c stepG_seq rl hF
   u_reg rl hF
   u_op rl hF
   u_c stepG_region_end rl hF
   u_cond false rl hF
   u_c stepG_skip rl hF
   u_c stepG_ret' rl hF
   u_leave0 H.f_wait rl hF
   exact Goes.stop fun _ _=>rfl
  ·refine ⟨_,stepG_cas_miss (v:=(v':Int) * KK) (old:=S) (n:=S+1) rfl rfl (by k_ne) rfl H.f_casU64 (x_casU64_n L) (x_casU64_b L) (x_casU64_x L) .u64 (x_casU64_f L) rfl rfl rfl hw.cellSt (hw.thaw 0) (by rw [← hS];simp only [KK];omega),40,?_⟩
   clear hw
   walk_nrm
   u_op rl hF
   u_c stepG_region_end rl hF
   u_c stepG_ret' rl hF
   u_leave1 H.f_uCas rl hF
   u_c stepG_region_end rl hF
   u_cond false rl hF
   u_c stepG_skip rl hF
   u_c stepG_inBlock rl hF
   u_c stepG_inLoop rl hF
   refine Goes.stop (fun w₃ h₃=>?_)
   replace hF:=rl hF h₃
   exact ⟨_,rfl,by simp,by simp,hF⟩
end
end Go.Fan
end
