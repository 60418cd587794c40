/-
  Lemmas about the program and the machine (B37 to B37), upon which the last text of this claim rests; no condition.
-/
import Derived.Deep.RegionWith
import Derived.Test.YtnpjncjnmpfgpaaGreatDoorY23
import Derived.Test.YtnpjncjnmpfgpaaGreatDoorY12
set_option linter.unusedSimpArgs false
set_option linter.unusedVariables false
namespace Go.Proofs.Tryz
open Go Go.Load Go.RowKit
def badI:Option Nat→Int
 | some k=>k
 | none=>-1
set_option maxHeartbeats 8000000 in
set_option maxRecDepth 100000 in
theorem rBad_any (A:Bk) (w:World) (hA:BookAt w A) (hl:Lim A.lim) (h1:1≤A.gs.length) (h4:A.gs.length≤4) (hg:∀g∈A.gs,0≤g.trunks∧g.trunks≤7∧∀x∈g.traffic,0≤x.1∧1≤x.2∧x.2≤4) :
 Calls qf 72 #[bv A] w fun e w'=>e=.returned (.int .i64 (badI (za A 0 A.gs)))∧Below w.heap.size w w':=by
 obtain ⟨b,o,hga,hcs⟩:=hA.row h1
 obtain ⟨F,hF⟩:∃F:Nat→Option Nat,∀k,F k=za A k (A.gs.drop k):=⟨fun k=>za A k (A.gs.drop k),fun _=>rfl⟩
 have hF0:za A 0 A.gs=F 0:=(hF 0).symm
 have HN:=Lib.hid fun (k:Nat) (g:Grp) (h:A.gs[k]? = some g)=>show F k=if g.traffic.any (badX A.lim g.trunks.toNat) then some k else F (k+1) by rw [hF,hF,ZF h,qdG]
 have HE:=Lib.hid (show F A.gs.length=none by rw [hF,List.drop_length];rfl)
 rw [hF0]
 have HC:=Lib.hid hcs
 have HA:=Lib.hid hA
 have HGG:=Lib.hid hg
 have HL:=Lib.hid hl
 clear hcs hA hg hl hF hF0
 obtain ⟨lim,gr,hr,gs,ga,gc⟩:=A
 simp only [bv] at *
 subst hga
 go_enter s72,ntmps72
 go_upto_region 1 with fail
 obtain ⟨W,hW⟩:∃W,w.alloc (.cells #[.int .i64 lim.1,.int .i64 lim.2,.int .i64 gr,.int .i64 hr,.slice (some ⟨b,o,none⟩) gs.length gc] 26)=W:=⟨_,rfl⟩
 have k0:W.cell? ⟨w.heap.size,0,none⟩=some (.int .i64 lim.1):=by subst hW;go_cell
 have k1:W.cell? ⟨w.heap.size,1,none⟩=some (.int .i64 lim.2):=by subst hW;go_cell
 have k4:W.cell? ⟨w.heap.size,4,none⟩=some (.slice (some ⟨b,o,none⟩) gs.length gc):=by subst hW;go_cell
 have hBW:Below w.heap.size w W:=by subst hW;go_grown
 rw [hW]
 clear hW
 have HBW:=Lib.hid hBW
 clear hBW
 generalize w.heap.size=z at k0 k1 k4 ⊢
 go_wp2
 go_loopw [3] (fun i wr=>∃k:Nat,i=.int .i64 k∧k≤gs.length∧Hid (F 0=F k)∧Below W.heap.size W wr) (fun i _=>gs.length - (intOf i).toNat)
 case atStart=>exact ⟨0,rfl,Nat.zero_le _,Lib.hid rfl,.refl _ _⟩
 case round =>
  obtain ⟨k,rfl,hk,hFk,hBr⟩:=hrel
  have k4':=qb _ hBr k4
  by_cases hlt:k < gs.length
  ·obtain ⟨g,hg⟩:∃g,gs[k]? = some g:=⟨gs[k],List.getElem?_eq_getElem hlt⟩
   have hm:=List.mem_of_getElem? hg
   obtain ⟨c0,c1,c2⟩:=HC.out k g hg
   have hBr':=bcl HBW.out hBr
   have c0:=qb _ hBr' c0
   have c1:=qb _ hBr' c1
   have c2:=qb _ hBr' c2
   have j1:(k:Int) < (gs.length:Int):=by omega
   have j2:(0:Int)≤(k:Int):=Int.natCast_nonneg k
   have HGK:=Lib.hid hg
   have HM:=Lib.hid hm
   obtain ⟨t0,t7,HT⟩:=HGG.out g hm
   have HT:=Lib.hid HT
   have gl:=(HA.out.small.2 g hm).1
   obtain ⟨n,hn⟩:=Int.eq_ofNat_of_zero_le t0
   rw [hn] at c1
   clear hg hm
   go_upto_region 5 with fail
   obtain ⟨W1,hW1⟩:∃W1,wr.alloc (.cells #[.string g.name,.int .i64 (n:Int),.slice g.ta g.traffic.length g.tc] 56)=W1:=⟨_,rfl⟩
   have g1:W1.cell? ⟨wr.heap.size,1,none⟩=some (.int .i64 (n:Int)):=by subst hW1;go_cell
   have g2:W1.cell? ⟨wr.heap.size,2,none⟩=some (.slice g.ta g.traffic.length g.tc):=by subst hW1;go_cell
   have hB1:Below W.heap.size W W1:=by subst hW1;exact hBr.alloc hBr.size _
   rw [hW1]
   clear hW1 c0 c1 c2 k4' hBr hBr'
   generalize wr.heap.size=q at g1 g2 ⊢
   go_wp2
   go_loopw [5] (fun i wx=>∃j:Nat,i=.int .i64 j∧j≤g.traffic.length∧Hid (∀x∈g.traffic.take j,badX lim n x=false)∧Below W1.heap.size W1 wx) (fun i _=>g.traffic.length - (intOf i).toNat)
   case atStart=>exact ⟨0,rfl,Nat.zero_le _,Lib.hid (by simp),.refl _ _⟩
   case round =>
    obtain ⟨j,rfl,hj,hall,hBx⟩:=hrel
    have g2':=qb _ hBx g2
    by_cases hlt2:j < g.traffic.length
    ·obtain ⟨x,hx⟩:∃x,g.traffic[j]? = some x:=⟨g.traffic[j],List.getElem?_eq_getElem hlt2⟩
     have hxm:=List.mem_of_getElem? hx
     obtain ⟨xb,xo,hxa,hxp⟩:=HA.out.traf g HM.out (by omega)
     have hBa:=bcl HBW.out (Below.call hB1 hBx (Nat.le_refl _))
     obtain ⟨y0,y1⟩:=(hxp.keep hBa) j x hx
     have g1':=qb _ hBx g1
     have k0':=qb _ (bcl hB1 hBx) k0
     have k1':=qb _ (bcl hB1 hBx) k1
     rw [hxa] at g2'
     have i1:(j:Int) < (g.traffic.length:Int):=by omega
     have i2:(0:Int)≤(j:Int):=Int.natCast_nonneg j
     obtain ⟨x0,x1,x2⟩:=HT.out x hxm
     have HX:=Lib.hid (And.intro hx hxm)
     clear hx hxm hxp hxa hBa
     have hS:RN wr ⟨q,1,none⟩ ⟨q,2,none⟩ ⟨xb,xo+j * 2,none⟩ ⟨xb,xo+j * 2+1,none⟩ ⟨z,0,none⟩ ⟨z,1,none⟩ (.int .i64 (n:Int)) (.slice (some ⟨xb,xo,none⟩) g.traffic.length g.tc) (.int .i64 x.1) (.int .i64 x.2) (.int .i64 lim.1) (.int .i64 lim.2) wr:=⟨g1',g2',y0,y1,k0',k1',Below.refl _ _⟩
     go_upto_region 8 with fail
     go_cut [44] from 25 to 44 (fun s wq=>s=.bool (badX lim n x)∧Below wr.heap.size wr wq)
     case first =>
      by_cases ht:zT x
      ·obtain ⟨X1,hX1⟩:=Int.eq_ofNat_of_zero_le x0
       obtain ⟨X2,hX2⟩:=Int.eq_ofNat_of_zero_le (show 0≤x.2 by omega)
       obtain ⟨xa,xc⟩:=x
       simp only at hX1 hX2
       subst hX1
       subst hX2
       have ht2:=ht
       obtain ⟨⟨_,tt⟩,tb1,tb2⟩:=ht2
       simp only at tt tb1 tb2
       have hit:=fun W=>ZM ((X1:Int),(X2:Int)) W ht
       have hwi:=fun W=>qcJ X1 X2 n lim (by omega) ⟨by omega,by omega⟩ (by omega) HL.out W
       have hbx:badX lim n ((X1:Int),(X2:Int)) = !borne ((X1:Int),(X2:Int)) n lim:=by unfold badX;rw [decide_eq_true ht];rfl
       simp only [fv] at hit hwi
       have HBX:=Lib.hid hbx
       clear hbx tt tb1 tb2 ht x0 x1 x2 y0 y1 g1' k0' k1' g2'
       go_region_held3 (RN wr ⟨q,1,none⟩ ⟨q,2,none⟩ ⟨xb,xo+j * 2,none⟩ ⟨xb,xo+j * 2+1,none⟩ ⟨z,0,none⟩ ⟨z,1,none⟩ (.int .i64 (n:Int)) (.slice (some ⟨xb,xo,none⟩) g.traffic.length g.tc) (.int .i64 (X1:Int)) (.int .i64 (X2:Int)) (.int .i64 lim.1) (.int .i64 lim.2)) (first | exact RN.drew hS | exact hX) (first | (go_at_call 55;(with_reducible refine (hit _).mono ?_);rintro e wy ⟨rfl,hB⟩;have hX:=RN.call (by with_reducible assumption) hB) | (go_at_call 97;(with_reducible refine (hwi _).mono ?_);rintro e wy ⟨rfl,hB⟩;have hX:=RN.call (by with_reducible assumption) hB))
       all_goals (go_wp2_with fail;go_meet;exact ⟨by rw [HBX.out],RN.bel hX⟩)
      ·have hit:=fun W=>YQ x W ht
       have hbx:badX lim n x=true:=by unfold badX;rw [decide_eq_false ht];rfl
       simp only [fv] at hit
       have HBX:=Lib.hid hbx
       clear hbx ht x0 x1 x2 g1' k0' k1' hS HT HA HGG HL HN HC HE HGK HM HX hall hFk g1 g2 k0 k1 k4 t0 t7 gl hn hB1 hBx HBW
       refine wp_region_any (by kernel_rfl) ?_;try (change wpAny _ _ _ _ _ _ _ (World.drew _))
       (refine wpAny_take (i:=0) (v:=?_) rfl (by kernel_rfl) (by kernel_rfl) (by kernel_rfl) (fun _ _ _ h=>h) (Or.inl ⟨by rfl,?_⟩) ?_;rotate_left 1;focus (intro w;go_simp;first | done | with_reducible rfl);try simp only [List.getElem_toArray,List.getElem_cons_succ,List.getElem_cons_zero,Act.put,List.setIfInBounds_toArray,List.set_cons_zero,List.set_cons_succ])
       (refine wpAny_take (i:=2) (v:=?_) rfl (by kernel_rfl) (by kernel_rfl) (by kernel_rfl) (fun _ _ _ h=>h) (Or.inl ⟨by rfl,?_⟩) ?_;rotate_left 1;focus (intro w;go_simp;first | done | with_reducible rfl);try simp only [List.getElem_toArray,List.getElem_cons_succ,List.getElem_cons_zero,Act.put,List.setIfInBounds_toArray,List.set_cons_zero,List.set_cons_succ])
       (refine wpAny_ready (rs:=[1]) (by kernel_rfl) (by simp) ?_;refine AllReady.cons rfl (fun K hK=>?_) AllReady.nil;go_simp;refine hK _ _ ?_;clear hK K)
       (refine wpAny_take (i:=3) (v:=?_) rfl (by kernel_rfl) (by kernel_rfl) (by kernel_rfl) (fun _ _ _ h=>h) (Or.inl ⟨by rfl,?_⟩) ?_;rotate_left 1;focus (intro w;go_simp;first | done | with_reducible rfl);try simp only [List.getElem_toArray,List.getElem_cons_succ,List.getElem_cons_zero,Act.put,List.setIfInBounds_toArray,List.set_cons_zero,List.set_cons_succ])
       (refine wpAny_ready (rs:=[4]) (by kernel_rfl) (by simp) ?_;refine AllReady.cons rfl (fun K hK=>?_) AllReady.nil;go_simp;refine hK _ _ ?_;clear hK K)
       refine wpAny_ready (rs:=[5]) (by kernel_rfl) (by simp) ?_;refine AllReady.cons rfl (fun K hK=>?_) AllReady.nil;go_simp;go_wp2_with (go_at_call 55;(with_reducible refine (hit _).mono ?_);rintro e wy ⟨rfl,hB⟩);try (refine hK _ _ ?_;clear hK K)
       (refine wpAny_take (i:=6) (v:=?_) rfl (by kernel_rfl) (by kernel_rfl) (by kernel_rfl) (fun _ _ _ h=>h) (Or.inl ⟨by rfl,?_⟩) ?_;rotate_left 1;focus (intro w;go_simp;first | done | with_reducible rfl);try simp only [List.getElem_toArray,List.getElem_cons_succ,List.getElem_cons_zero,Act.put,List.setIfInBounds_toArray,List.set_cons_zero,List.set_cons_succ])
       (refine wpAny_take (i:=7) (v:=?_) rfl (by kernel_rfl) (by kernel_rfl) (by kernel_rfl) (fun _ _ _ h=>h) (Or.inl ⟨by rfl,?_⟩) ?_;rotate_left 1;focus (intro w;go_simp;first | done | with_reducible rfl);try simp only [List.getElem_toArray,List.getElem_cons_succ,List.getElem_cons_zero,Act.put,List.setIfInBounds_toArray,List.set_cons_zero,List.set_cons_succ])
       refine wpAny_take (i:=8) (v:=undef) rfl (by kernel_rfl) (by kernel_rfl) (by kernel_rfl) (fun _ _ _ h=>h) (Or.inr ⟨by kernel_rfl,rfl⟩) ?_;try simp only [List.getElem_toArray,List.getElem_cons_succ,List.getElem_cons_zero,Act.put,List.setIfInBounds_toArray,List.set_cons_zero,List.set_cons_succ];refine wpAny_take (i:=9) (v:=undef) rfl (by kernel_rfl) (by kernel_rfl) (by kernel_rfl) (fun _ _ _ h=>h) (Or.inr ⟨by kernel_rfl,rfl⟩) ?_;try simp only [List.getElem_toArray,List.getElem_cons_succ,List.getElem_cons_zero,Act.put,List.setIfInBounds_toArray,List.set_cons_zero,List.set_cons_succ];refine wpAny_take (i:=10) (v:=undef) rfl (by kernel_rfl) (by kernel_rfl) (by kernel_rfl) (fun _ _ _ h=>h) (Or.inr ⟨by kernel_rfl,rfl⟩) ?_;try simp only [List.getElem_toArray,List.getElem_cons_succ,List.getElem_cons_zero,Act.put,List.setIfInBounds_toArray,List.set_cons_zero,List.set_cons_succ];refine wpAny_take (i:=11) (v:=undef) rfl (by kernel_rfl) (by kernel_rfl) (by kernel_rfl) (fun _ _ _ h=>h) (Or.inr ⟨by kernel_rfl,rfl⟩) ?_;try simp only [List.getElem_toArray,List.getElem_cons_succ,List.getElem_cons_zero,Act.put,List.setIfInBounds_toArray,List.set_cons_zero,List.set_cons_succ];refine wpAny_take (i:=12) (v:=undef) rfl (by kernel_rfl) (by kernel_rfl) (by kernel_rfl) (fun _ _ _ h=>h) (Or.inr ⟨by kernel_rfl,rfl⟩) ?_;try simp only [List.getElem_toArray,List.getElem_cons_succ,List.getElem_cons_zero,Act.put,List.setIfInBounds_toArray,List.set_cons_zero,List.set_cons_succ];refine wpAny_take (i:=13) (v:=undef) rfl (by kernel_rfl) (by kernel_rfl) (by kernel_rfl) (fun _ _ _ h=>h) (Or.inr ⟨by kernel_rfl,rfl⟩) ?_;try simp only [List.getElem_toArray,List.getElem_cons_succ,List.getElem_cons_zero,Act.put,List.setIfInBounds_toArray,List.set_cons_zero,List.set_cons_succ];refine wpAny_take (i:=14) (v:=undef) rfl (by kernel_rfl) (by kernel_rfl) (by kernel_rfl) (fun _ _ _ h=>h) (Or.inr ⟨by kernel_rfl,rfl⟩) ?_;try simp only [List.getElem_toArray,List.getElem_cons_succ,List.getElem_cons_zero,Act.put,List.setIfInBounds_toArray,List.set_cons_zero,List.set_cons_succ];refine wpAny_take (i:=15) (v:=undef) rfl (by kernel_rfl) (by kernel_rfl) (by kernel_rfl) (fun _ _ _ h=>h) (Or.inr ⟨by kernel_rfl,rfl⟩) ?_;try simp only [List.getElem_toArray,List.getElem_cons_succ,List.getElem_cons_zero,Act.put,List.setIfInBounds_toArray,List.set_cons_zero,List.set_cons_succ];refine wpAny_take (i:=16) (v:=undef) rfl (by kernel_rfl) (by kernel_rfl) (by kernel_rfl) (fun _ _ _ h=>h) (Or.inr ⟨by kernel_rfl,rfl⟩) ?_;try simp only [List.getElem_toArray,List.getElem_cons_succ,List.getElem_cons_zero,Act.put,List.setIfInBounds_toArray,List.set_cons_zero,List.set_cons_succ];refine wpAny_take (i:=17) (v:=undef) rfl (by kernel_rfl) (by kernel_rfl) (by kernel_rfl) (fun _ _ _ h=>h) (Or.inr ⟨by kernel_rfl,rfl⟩) ?_;try simp only [List.getElem_toArray,List.getElem_cons_succ,List.getElem_cons_zero,Act.put,List.setIfInBounds_toArray,List.set_cons_zero,List.set_cons_succ];refine wpAny_take (i:=18) (v:=undef) rfl (by kernel_rfl) (by kernel_rfl) (by kernel_rfl) (fun _ _ _ h=>h) (Or.inr ⟨by kernel_rfl,rfl⟩) ?_;try simp only [List.getElem_toArray,List.getElem_cons_succ,List.getElem_cons_zero,Act.put,List.setIfInBounds_toArray,List.set_cons_zero,List.set_cons_succ]
       (refine wpAny_take (i:=19) (v:=?_) rfl (by kernel_rfl) (by kernel_rfl) (by kernel_rfl) (fun _ _ _ h=>h) (Or.inl ⟨by rfl,?_⟩) ?_;rotate_left 1;focus (intro w;go_simp;first | done | with_reducible rfl);try simp only [List.getElem_toArray,List.getElem_cons_succ,List.getElem_cons_zero,Act.put,List.setIfInBounds_toArray,List.set_cons_zero,List.set_cons_succ])
       refine wpAny_done (by kernel_rfl) ?_ _;simp only [List.getElem_toArray,List.getElem_cons_succ,List.getElem_cons_zero,Act.put,List.setIfInBounds_toArray,List.set_cons_zero,List.set_cons_succ]
       all_goals (go_wp2_with fail;go_meet;exact ⟨by rw [HBX.out],bcl (w:=wr) ((Below.refl _ wr).drew) hB⟩)
     case rest =>
      obtain ⟨rfl,hBq⟩:=hcut
      clear hS y0 y1 g1' k0' k1' g2'
      have HB:=Lib.hid (bcl hBx hBq)
      cases hbd:badX lim n x with
      | true =>
        have hfk:F k=some k:=by
         rw [HN.out k g HGK.out,if_pos]
         rw [List.any_eq_true]
         exact ⟨x,HX.out.2,by simpa [hn] using hbd⟩
        have hf0:=hFk.out.trans hfk
        have HF0:=Lib.hid hf0
        clear hbd hfk hf0
        go_wp2
        go_ret
        exact ⟨by rw [HF0.out];rfl,bcl HBW.out (Below.call hB1 HB.out (Nat.le_refl _))⟩
      | false =>
        have hall':∀y∈g.traffic.take (j+1),badX lim n y=false:=fun y hy=>by
         rw [List.take_add_one,HX.out.1] at hy
         rcases List.mem_append.1 hy with h | h
         ·exact hall.out y h
         ·obtain rfl:y=x:=by simpa using h
          exact hbd
        have HAL:=Lib.hid hall'
        clear hbd hall'
        go_wp2
        go_roundw
        case rel=>exact ⟨j+1,rfl,by omega,HAL,HB.out⟩
        case measure=>simp [intOf];omega
    ·obtain rfl:j=g.traffic.length:=by omega
     have hfk:F k=F (k+1):=by
      rw [HN.out k g HGK.out,if_neg]
      rw [List.any_eq_true]
      rintro ⟨y,hy,hb⟩
      have:=hall.out y (by rw [List.take_length];exact hy)
      rw [hn,Int.toNat_natCast,this] at hb
      cases hb
     have HF0:=Lib.hid (hFk.out.trans hfk)
     clear hfk
     go_wp2
     go_roundw
     case rel=>exact ⟨k+1,rfl,by omega,HF0,bcl hB1 hBx⟩
     case measure=>simp [intOf];omega
  ·obtain rfl:k=gs.length:=by omega
   have HF0:=Lib.hid (hFk.out.trans HE.out)
   go_wp2
   go_ret
   exact ⟨by rw [HF0.out];rfl,bcl HBW.out hBr⟩
end Go.Proofs.Tryz
