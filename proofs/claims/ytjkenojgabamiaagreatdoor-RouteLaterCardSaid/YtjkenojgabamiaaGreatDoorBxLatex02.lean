/-
  Lemmas about the program and the machine (D10 to D10), upon which the last text of this claim rests; no condition.
-/
import Derived.Test.YtjkenojgabamiaaGreatDoorBxLatex01
set_option linter.unusedSimpArgs false
set_option linter.unusedVariables false
namespace Go.Proofs.Tryz
open Go Go.Load Go.LoadR Go.RowKit
set_option maxHeartbeats 8000000 in
set_option maxRecDepth 100000 in
theorem qcE (D:DayM) (q:List Int) (qa:Option Addr) (qc:Nat) (many:Int) (hm:0≤many∧many < 256) (hCA:D.ca=none) (hf:fitB D=true) (w:World) (hG:Globs w) (h:DayAt w D) (hcap:DayCap D) (hnil:D.ca=none→D.cc=0) (hq:qg w 1 encU qa q) (hqc:q.length≤qc) (hqb:∀x∈q,0≤x∧x≤65535) :
 Calls qj 5 #[dv D,.slice qa q.length qc,.int .u8 many] w fun e w'=>e=.returned (.bool true):=by
 have hfit:=fun W (hB:Below w.heap.size w W)=>Xu D W (h.keep hB) hcap
 have hro:=fun W (hB:Below w.heap.size w W)=>jT W (hG.keep hB)
 have hdv:dv D=.agg #[.slice D.ta D.ts.length D.tc,.slice D.ga D.gs.length D.gc,.slice D.oa D.os.length D.oc,.slice D.ha D.hs.length D.hc,.slice D.ca D.cs.length D.cc]:=rfl
 have HRO:=Lib.hid hro
 clear hro
 obtain ⟨W,hW⟩:∃W,w.alloc (Obj.cells #[.slice D.ta D.ts.length D.tc,.slice D.ga D.gs.length D.gc,.slice D.oa D.os.length D.oc,.slice D.ha D.hs.length D.hc,.slice D.ca D.cs.length D.cc] 28)=W:=⟨_,rfl⟩
 have h5:B5 W w.heap.size (.slice D.ta D.ts.length D.tc) (.slice D.ga D.gs.length D.gc) (.slice D.oa D.os.length D.oc) (.slice D.ha D.hs.length D.hc) (.slice D.ca D.cs.length D.cc):=by subst hW;exact B5.new ..
 have hBw:Below w.heap.size w W:=by subst hW;go_grown
 obtain ⟨k0,k1,k2,k3,k4⟩:=h5
 have HCA:=Lib.hid hCA
 clear hCA
 obtain ⟨hs,hz⟩:=qaB hf hcap
 rw [hf] at hfit
 obtain ⟨i0,hi,hz0,hz1,hz2⟩:=info_parts xJ
 obtain ⟨j0,hj,hy0,hy1,hy2⟩:=info_parts XN
 have hU:qj.underlying 26=some (.slice 52):=(qx _).trans Tryz.underlying26
 have hgl:=(qM D hz).gs
 have hcl:=(qM D hz).cs
 have hch:=fun W (hB:Below w.heap.size w W) k=>QU q qa qc k hqc hqb W (hq.keep hB)
 have HD:=Lib.hid (And.intro h (And.intro hs (And.intro hz (And.intro hG hnil))))
 have hqn:∀k,0≤q.getD k 0:=fun k=>by
  rw [List.getD_eq_getElem?_getD]
  by_cases hk:k < q.length
  ·rw [List.getElem?_eq_getElem hk]
   exact (hqb _ (List.getElem_mem hk)).1
  ·rw [List.getElem?_eq_none (by omega)]
   exact Int.le_refl 0
 have HQN:=Lib.hid hqn
 have HCH:=Lib.hid hch
 rw [hdv] at hfit ⊢
 have HF:=Lib.hid hfit
 clear hdv hfit hcap hnil hq hqb hG hf h hs hz hqn hch
 go_enter (sf 5 f5),ntmps5
 go_upto_region 1 with fail
 try rw [hW]
 clear hW
 go_upto_region 5 with (go_at_call 18;(with_reducible refine (HF.out _ hBw).mono ?_);rintro e W1 ⟨rfl,hB1⟩;replace k0:=qb _ hB1 k0;replace k1:=qb _ hB1 k1;replace k2:=qb _ hB1 k2;replace k3:=qb _ hB1 k3;replace k4:=qb _ hB1 k4;replace hBw:=bcl hBw hB1;clear hB1)
 clear HF
 have hzW1:w.heap.size < W1.heap.size:=lt_of_cell k0
 go_loopw [8,7] (fun i u wr=>∃(k:Nat) (v:Value),i=.int .i64 k∧v=u∧k≤D.gs.length∧Hid (Below W1.heap.size W1 wr)∧Hid (wr.ownsRow W1.heap.size 3 1 v (zy q 7 k).length ((zy q 7 k).map (.int .i64)))) (fun i _ _=>D.gs.length - (intOf i).toNat)
 case atStart=>exact ⟨0,_,rfl,rfl,by omega,Lib.hid (Below.refl _ _),Lib.hid (World.ownsRow_nil _ _ _ _)⟩
 case round =>
  obtain ⟨k,v,rfl,rfl,hk,HB,HO⟩:=hrel
  replace k0:=qb _ HB.out k0
  replace k1:=qb _ HB.out k1
  replace k2:=qb _ HB.out k2
  replace k3:=qb _ HB.out k3
  replace k4:=qb _ HB.out k4
  have hsz:=HB.out.size
  by_cases hlt:k < D.gs.length
  ·have hki:(k:Int) < (D.gs.length:Int):=by omega
   have hk0:(0:Int)≤(k:Int):=Int.natCast_nonneg k
   have hcc:=HCH.out _ (bcl hBw HB.out) k
   have hps:=Qt q 7 k
   have hpl:=yT q 7 k
   have hx0:=HQN.out k
   generalize q.getD k 0=x at *
   have htm:Int.tmod x 7=x % 7:=jY hx0
   have hxr:0≤x % 7∧x % 7 < 7:=⟨by omega,by omega⟩
   obtain ⟨y,hy⟩:∃y,x % 7=y:=⟨_,rfl⟩
   rw [hy] at htm hps hxr
   have HPS:=Lib.hid hps
   have HPL:=Lib.hid hpl
   obtain ⟨L,hL⟩:∃L,zy q 7 k=L:=⟨_,rfl⟩
   rw [hL] at HPS HO HPL
   have hLl:L.length≤20:=by have:=HPL.out;omega
   clear hps hpl hy hL hx0
   go_wp2_with (first | (go_at_call 19;(with_reducible refine hcc.mono ?_);rintro e w2 ⟨rfl,rfl⟩) | (at_builtin;refine wpList_append_own_at _ rfl (.tmp 27) (.tmp 32) 31 rfl W1.heap.size 3 i0 (.int .i64 0) 1 8 ((qx _).trans Tryz.underlying31) hi hz0 hz1 hz2 rfl (by decide) _ _ _ rfl (HO.out.alloc _) ⟨wr.heap.size,0,none⟩ 1 1 [.int .i64 y] rfl rfl (cell_one_new _ _ _) (xV y) (by unfold maxLen;omega) (by omega) (by simp;omega) ?_;intro v1 w3 n1 y1 nil1 at1))
   have y2:(wr.alloc (.cells #[.int .i64 y] 3)).grownBy w3 v.ownBlock:=y1
   have hB3:Below W1.heap.size W1 w3:=HB.out.trans (((Mod.below ((Below.refl _ wr).alloc (Nat.le_refl _) _)).trans (Mod.grown (S:=fun b=>v.ownBlock=some b) y2 (fun b e=>e))).keep hsz (fun b hb=>(HO.out.lt b hb).1))
   go_roundw
   case rel =>
    refine ⟨k+1,v1,rfl,rfl,by omega,Lib.hid hB3,Lib.hid ?_⟩
    rw [HPS.out]
    simp only [List.length_append,List.length_cons,List.length_nil,Nat.zero_add,List.map_append,List.map_cons,List.map_nil]
    exact n1
   case measure=>simp [intOf];omega
  ·obtain rfl:k=D.gs.length:=by omega
   obtain ⟨la,lc,rfl,hlc,hlr⟩:=yH HO.out
   have hpl:=yT q 7 D.gs.length
   have hpb:∀x∈zy q 7 D.gs.length,0≤x∧x≤9:=fun x hx=>by
    unfold zy at hx
    obtain ⟨i,_,rfl⟩:=List.mem_map.1 hx
    omega
   have HP:=Lib.hid (And.intro hpl (And.intro hlc (And.intro hlr hpb)))
   have hll:(zy q 7 D.gs.length).length≤20:=by omega
   obtain ⟨L,hL⟩:∃L,zy q 7 D.gs.length=L:=⟨_,rfl⟩
   rw [hL] at HP hll ⊢
   have hBy:=bcl hBw HB.out
   have hzwr:W1.heap.size≤wr.heap.size:=hsz
   clear hL hpl hlc hlr hpb HO HB hk hlt HCH HQN hBw hsz
   obtain ⟨n,hn⟩:∃n:Nat,(n:Int)=many % ((D.cs.length:Int)+1):=⟨(many % ((D.cs.length:Int)+1)).toNat,by rw [Int.toNat_of_nonneg (Int.emod_nonneg _ (by omega))]⟩
   have hnl:n≤D.cs.length:=by have:=Int.emod_lt_of_pos many (show (0:Int) < (D.cs.length:Int)+1 by omega);omega
   have hwm:IntKind.i64.wrap many=many:=by rw [IntKind.wrap_i64];omega
   have htm:Int.tmod many ((D.cs.length:Int)+1)=(n:Int):=by rw [jY hm.1,hn]
   have hne:¬ (D.cs.length:Int)+1=0:=by omega
   have hwl:wrap64 ((D.cs.length:Int)+1)=(D.cs.length:Int)+1:=wrap_small (by omega) (by omega)
   clear hn
   go_upto_region 10 with fail
   clear hwm htm hne hwl
   obtain ⟨U,hUU⟩:∃U,wr.alloc (Obj.cells #[.slice D.ta D.ts.length D.tc,.slice D.ga D.gs.length D.gc,.slice D.oa D.os.length D.oc,.slice D.ha D.hs.length D.hc,.slice D.ca D.cs.length D.cc] 28)=U:=⟨_,rfl⟩
   have hBU:Below wr.heap.size wr U:=by subst hUU;go_grown
   have hzU:U.heap.size=wr.heap.size+1:=by subst hUU;simp
   have u0:U.cell? ⟨wr.heap.size,0,none⟩=some (.slice D.ta D.ts.length D.tc):=by subst hUU;go_cell
   have u1:U.cell? ⟨wr.heap.size,1,none⟩=some (.slice D.ga D.gs.length D.gc):=by subst hUU;go_cell
   have u2:U.cell? ⟨wr.heap.size,2,none⟩=some (.slice D.oa D.os.length D.oc):=by subst hUU;go_cell
   have u3:U.cell? ⟨wr.heap.size,3,none⟩=some (.slice D.ha D.hs.length D.hc):=by subst hUU;go_cell
   have u4:U.cell? ⟨wr.heap.size,4,none⟩=some (.slice D.ca D.cs.length D.cc):=by subst hUU;go_cell
   have f4:U.frozen? ⟨wr.heap.size,4,none⟩=false:=by subst hUU;go_cell
   rw [hUU]
   clear hUU
   replace k0:=qb _ hBU k0
   replace k1:=qb _ hBU k1
   replace k2:=qb _ hBU k2
   replace k3:=qb _ hBU k3
   replace k4:=qb _ hBU k4
   have hByU:=bcl hBy hBU
   have HZU:=Lib.hid hzU
   have hwU:wr.heap.size < U.heap.size:=by omega
   have hwW:w.heap.size < wr.heap.size:=by omega
   have hwU0:w.heap.size < U.heap.size:=by omega
   clear hzU
   rw [HCA.out] at k4 u4 ⊢
   have hcs0:D.cs.length=0:=by
    rcases Nat.eq_zero_or_pos D.cs.length with h9 | h9
    ·exact h9
    ·obtain ⟨b9,o9,e9,_⟩:=HD.out.1.cs h9
     rw [HCA.out] at e9
     cases e9
   have hcc0:=Lib.hid (HD.out.2.2.2.2 HCA.out)
   obtain rfl:n=0:=by omega
   rw [hcc0.out] at k4 u4 ⊢
   rw [hcs0] at k4 u4 ⊢
   have HCS0:=Lib.hid hcs0
   clear hcs0
   go_upto_region 11 with (at_builtin;refine wpList_append_own_none rfl (.tmp 42) (.tmp 46) 26 rfl U.heap.size 52 j0 5 hU hj _ 0 [] rfl (World.ownsRow_made U #[] 0 (Nat.le_refl _) (by unfold maxLen;omega) rfl) rfl ?_)
   have hB3:Below U.heap.size U U:=Below.refl _ _
   have hOw3:zW U.heap.size U 5 je (some ⟨U.heap.size,0,none⟩) (D.cs.take 0):=⟨fun p hp=>by cases hp;exact Nat.le_refl _,fun hl=>by simp at hl⟩
   obtain ⟨Z,hZ⟩:∃Z,(U.setCell ⟨wr.heap.size,4,none⟩ (.slice (some ⟨U.heap.size,0,none⟩) 0 0)).alloc (Obj.cells #[] 52)=Z:=⟨_,rfl⟩
   have hmZ:Mod (fun j=>j=wr.heap.size) U Z:=by subst hZ;exact ((Mod.refl (fun j=>j=wr.heap.size) U).put ⟨wr.heap.size,4,none⟩ _ rfl).trans (Mod.below ((Below.refl _ _).alloc (Nat.le_refl _) _))
   have z4:Z.cell? ⟨wr.heap.size,4,none⟩=some (.slice (some ⟨U.heap.size,0,none⟩) 0 0):=by subst hZ;exact qQ (qp (qB u4))
   have z0:Z.cell? ⟨wr.heap.size,0,none⟩=some (.slice D.ta D.ts.length D.tc):=by subst hZ;exact qQ (qh u0 (.inr (by simp)))
   have z1:Z.cell? ⟨wr.heap.size,1,none⟩=some (.slice D.ga D.gs.length D.gc):=by subst hZ;exact qQ (qh u1 (.inr (by simp)))
   have z2:Z.cell? ⟨wr.heap.size,2,none⟩=some (.slice D.oa D.os.length D.oc):=by subst hZ;exact qQ (qh u2 (.inr (by simp)))
   have z3:Z.cell? ⟨wr.heap.size,3,none⟩=some (.slice D.ha D.hs.length D.hc):=by subst hZ;exact qQ (qh u3 (.inr (by simp)))
   replace k0:=hmZ.cell k0 (by simp only;omega)
   replace k1:=hmZ.cell k1 (by simp only;omega)
   replace k2:=hmZ.cell k2 (by simp only;omega)
   replace k3:=hmZ.cell k3 (by simp only;omega)
   replace k4:=hmZ.cell k4 (by simp only;omega)
   have hncap:0≤0:=Nat.le_refl 0
   have hGU:U.heap.size≤U.heap.size:=(hOw3).1 _ rfl
   have hOZ:zW U.heap.size Z 5 je (some ⟨U.heap.size,0,none⟩) (D.cs.take 0):=(hOw3).mod hmZ (fun p hp e=>by cases hp;simp only at e;omega)
   have hBwP:=bcl hByU hB3
   have hBwZ:Below w.heap.size w Z:=hBwP.trans (hmZ.keep hBwP.size (fun j e=>by omega))
   have hBtZ:Below U.heap.size U Z→True:=fun _=>trivial
   clear hBtZ
   have hBPZ:qg Z 1 encI la L:=fun hl=>by
    obtain ⟨b9,o9,e9,h9⟩:=(HP.out.2.2.1.keep hBU) hl
    refine ⟨b9,o9,e9,fun i x hx j v hv=>?_⟩
    have h8:=h9 i x hx j v hv
    have h7:=(HP.out.2.2.1 hl)
    obtain ⟨b7,o7,e7,h7⟩:=h7
    rw [e9] at e7
    cases e7
    have hb7:=lt_of_cell (h7 i x hx j v hv)
    exact hmZ.cell (qb _ hB3 h8) (by simp only at hb7 ⊢;omega)
   have HTR:=Lib.hid hBPZ
   have HOZ:=Lib.hid (show zW U.heap.size Z 5 je (some ⟨U.heap.size,0,none⟩) (qac (D.cs.take 0) 0) by simpa [qac] using hOZ)
   have HBZ:=Lib.hid hBwZ
   try rw [hZ]
   clear hZ hmZ u0 u1 u2 u3 u4 f4 hOZ hBwP hBPZ
   obtain ⟨wt,hwt⟩:∃X,X=wr:=⟨_,rfl⟩
   subst hwt
   go_wp2
   go_loopw [11] (fun i wx=>∃k:Nat,i=.int .i64 k∧k≤0∧Hid (Mod (fun j=>j=U.heap.size) Z wx)∧Hid (zW U.heap.size wx 5 je (some ⟨U.heap.size,0,none⟩) (qac (D.cs.take 0) k))) (fun i _=>0 - (intOf i).toNat)
   case atStart=>exact ⟨0,rfl,Nat.zero_le _,Lib.hid (Mod.refl _ _),HOZ⟩
   case round =>
    obtain ⟨k,rfl,hk,HM,HO⟩:=hrel
    replace z4:=HM.out.cell z4 (by simp only;omega)
    ·obtain rfl:k=0:=by omega
     have hO:=HO.out
     rw [show qac (D.cs.take 0) 0=(D.cs.take 0).map unseen from by have h9:=qbT (D.cs.take 0);rwa [List.length_take,Nat.min_eq_left hnl] at h9] at hO
     replace z0:=HM.out.cell z0 (by simp only;omega)
     replace z1:=HM.out.cell z1 (by simp only;omega)
     replace z2:=HM.out.cell z2 (by simp only;omega)
     replace z3:=HM.out.cell z3 (by simp only;omega)
     replace k0:=HM.out.cell k0 (by simp only;omega)
     replace k1:=HM.out.cell k1 (by simp only;omega)
     replace k2:=HM.out.cell k2 (by simp only;omega)
     replace k3:=HM.out.cell k3 (by simp only;omega)
     replace k4:=HM.out.cell k4 (by simp only;omega)
     have hBx:Below w.heap.size w wr:=HBZ.out.trans (HM.out.keep HBZ.out.size (fun j e=>by omega))
     have hln:((D.cs.take 0).map unseen).length=0:=by rw [List.length_map,List.length_take];omega
     have hd:=HD.out.1.keep hBx
     have hdO:DayAt wr (qN D 0 (some ⟨U.heap.size,0,none⟩) 0):=⟨hd.ts,hd.gs,hd.os,hd.ws,hd.ls,hd.hs,hO.rows⟩
     have hsO:DaySm (qN D 0 (some ⟨U.heap.size,0,none⟩) 0):=by
      have h:=HD.out.2.1
      refine ⟨h.ts,h.nm,h.gs,h.os,h.ws,h.ls,h.hs,?_⟩
      show ((D.cs.take 0).map unseen).length≤20∧((D.cs.take 0).map unseen).length≤0
      rw [hln]
      omega
     have hTr:qg wr 1 encI la L:=fun hl=>by
      obtain ⟨b9,o9,e9,h9⟩:=HTR.out hl
      refine ⟨b9,o9,e9,fun i x hx j v hv=>HM.out.cell (h9 i x hx j v hv) ?_⟩
      obtain ⟨b7,o7,e7,h7⟩:=HP.out.2.2.1 hl
      rw [e9] at e7
      cases e7
      have hb7:=lt_of_cell (h7 i x hx j v hv)
      simp only at hb7 ⊢
      omega
     have hp1:=jF D L la lc wr hd HD.out.2.1 (HD.out.2.2.2.1.keep hBx) (QK HD.out.2.2.1 HP.out.1 HP.out.2.2.2) hll HP.out.2.1 hTr
     have hp2:=fun X (hX:Below wr.heap.size wr X)=>jF (qN D 0 (some ⟨U.heap.size,0,none⟩) 0) L la lc X (hdO.keep hX) hsO (HD.out.2.2.2.1.keep (bcl hBx hX)) (QK (Yn D 0 _ _ HD.out.2.2.1) HP.out.1 HP.out.2.2.2) hll HP.out.2.1 (hTr.keep hX)
     rw [show dv D=.agg #[.slice D.ta D.ts.length D.tc,.slice D.ga D.gs.length D.gc,.slice D.oa D.os.length D.oc,.slice D.ha D.hs.length D.hc,.slice (none) D.cs.length 0] by unfold dv;rw [HCA.out];rw [hcc0.out]] at hp1
     rw [HCS0.out] at hp1
     rw [show dv (qN D 0 (some ⟨U.heap.size,0,none⟩) 0)=.agg #[.slice D.ta D.ts.length D.tc,.slice D.ga D.gs.length D.gc,.slice D.oa D.os.length D.oc,.slice D.ha D.hs.length D.hc,.slice (some ⟨U.heap.size,0,none⟩) 0 0] from (by unfold dv;show Value.agg #[_,_,_,_,.slice _ ((D.cs.take 0).map unseen).length _]=_;rw [hln];rfl),show (qN D 0 (some ⟨U.heap.size,0,none⟩) 0).cs.length=0 from hln] at hp2
     rw [Xd] at hp2
     have hPl:=qI D (setOf (qD L))
     generalize qA D (setOf (qD L))=P at *
     have HP1:=Lib.hid hp1
     have HP2:=Lib.hid hp2
     have HBX:=Lib.hid hBx
     have HPl:=Lib.hid hPl
     have hlL:L.length=L.length:=rfl
     clear hO hd hdO hsO hTr hp1 hp2 hln hBx HBZ HTR HOZ hPl hlL
     go_upto_region 16 with (go_at_call 20;(with_reducible refine HP1.out.mono ?_);intro e w5 hQ;obtain ⟨hB5,pa,pc,he,hpc,hpr⟩:=hQ;subst he;replace z0:=qb _ hB5 z0;replace z1:=qb _ hB5 z1;replace z2:=qb _ hB5 z2;replace z3:=qb _ hB5 z3;replace z4:=qb _ hB5 z4)
     have HPR:=Lib.hid (And.intro hpc (And.intro hpr hB5))
     clear hpr
     go_upto_region 17 with (go_at_call 20;(with_reducible refine (HP2.out _ hB5).mono ?_);intro e w6 hQ;obtain ⟨hB6,ya,yc,he,hyc,hyr⟩:=hQ;subst he)
     have hpc2:(D.cs.length:Int)≤(pc:Int):=by have:=HCS0.out;omega
     have hkl:(0:Int)≤(D.cs.length:Int):=by omega
     have hkl2:(0:Int)≤(pc:Int):=by omega
     have hkk:(0:Int)≤(0:Int):=by omega
     have htl:(P.take 0).length=0:=by rw [List.length_take,HPl.out];omega
     have hsn:=xq pa ya pc yc (P.take 0) (P.take 0) w6 ((HPR.out.2.1.keep hB6).take 0) hyr (by rw [htl];omega) (by rw [htl];omega) (by rw [htl];omega) (by rw [htl];omega)
     rw [htl] at hsn
     simp only [decide_true] at hsn
     have HB7:=Lib.hid (bcl (Below.call HBX.out HPR.out.2.2 (Nat.le_refl _)) hB6)
     clear hyr htl hB5 hB6
     cases pa with
     | none =>
       go_wp2_with (first | (go_at_call 11;(with_reducible refine hsn.mono ?_);rintro e w7 ⟨rfl,hB8⟩) | (go_at_call 8;(with_reducible refine (HRO.out _ (bcl HB7.out hB8)).mono ?_);rintro e w8 ⟨rfl,hB9⟩))
       go_ret
       rfl
     | some pad =>
       go_wp2_with (first | (go_at_call 11;(with_reducible refine hsn.mono ?_);rintro e w7 ⟨rfl,hB8⟩) | (go_at_call 8;(with_reducible refine (HRO.out _ (bcl HB7.out hB8)).mono ?_);rintro e w8 ⟨rfl,hB9⟩))
       go_ret
       rfl
set_option maxHeartbeats 4000000 in
set_option maxRecDepth 100000 in
theorem Xx (D:DayM) (q:List Int) (qa:Option Addr) (qc:Nat) (many:Int) (hm:0≤many∧many < 256) (w:World) (hG:Globs w) (h:DayAt w D) (hcap:DayCap D) (hnil:D.ca=none→D.cc=0) (hq:qg w 1 encU qa q) (hqc:q.length≤qc) (hqb:∀x∈q,0≤x∧x≤65535) :
 Calls qj 5 #[dv D,.slice qa q.length qc,.int .u8 many] w fun e w'=>e=.returned (.bool true):=by
 have hfit:=fun W (hB:Below w.heap.size w W)=>Xu D W (h.keep hB) hcap
 have hro:=fun W (hB:Below w.heap.size w W)=>jT W (hG.keep hB)
 have hdv:dv D=.agg #[.slice D.ta D.ts.length D.tc,.slice D.ga D.gs.length D.gc,.slice D.oa D.os.length D.oc,.slice D.ha D.hs.length D.hc,.slice D.ca D.cs.length D.cc]:=rfl
 have HRO:=Lib.hid hro
 clear hro
 obtain ⟨W,hW⟩:∃W,w.alloc (Obj.cells #[.slice D.ta D.ts.length D.tc,.slice D.ga D.gs.length D.gc,.slice D.oa D.os.length D.oc,.slice D.ha D.hs.length D.hc,.slice D.ca D.cs.length D.cc] 28)=W:=⟨_,rfl⟩
 have h5:B5 W w.heap.size (.slice D.ta D.ts.length D.tc) (.slice D.ga D.gs.length D.gc) (.slice D.oa D.os.length D.oc) (.slice D.ha D.hs.length D.hc) (.slice D.ca D.cs.length D.cc):=by subst hW;exact B5.new ..
 have hBw:Below w.heap.size w W:=by subst hW;go_grown
 obtain ⟨k0,k1,k2,k3,k4⟩:=h5
 cases hf:fitB D with
 | false =>
   rw [hf] at hfit
   rw [hdv] at hfit ⊢
   have HF:=Lib.hid hfit
   clear hdv hfit h hcap hnil hq hqb hG hf
   go_enter (sf 5 f5),ntmps5
   go_upto_region 1 with fail
   try rw [hW]
   clear hW
   go_wp2_with (first | (go_at_call 18;(with_reducible refine (HF.out _ hBw).mono ?_);rintro e w1 ⟨rfl,hB1⟩;replace hBw:=bcl hBw hB1) | (go_at_call 8;(with_reducible refine (HRO.out _ hBw).mono ?_);rintro e w2 ⟨rfl,hB2⟩))
   go_ret
   rfl
 | true =>
   cases hCA:D.ca with
   | none=>exact qcE D q qa qc many hm hCA hf w hG h hcap hnil hq hqc hqb
   | some ad=>exact qcF D q qa qc many hm ad hCA hf w hG h hcap hnil hq hqc hqb
end Go.Proofs.Tryz
