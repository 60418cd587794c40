/-
  Lemmas about the program and the machine (C35 to C24), upon which the last text of this claim rests; no condition.
-/
import Derived.IntWalk
import Derived.Deep.Cut
import Derived.Deep.CutRange
import Derived.Deep.Light
import Derived.Test.YtnpjncjnmpfgpaaGreatDoorG06
set_option linter.unusedSimpArgs false
set_option linter.unusedVariables false
namespace Go.Proofs.Tryz
open Go Go.Load Go.RowKit
theorem qch {P:Program} {fn:Func} {R:Ending→World→Prop} {ts:Array Value} {p q r s:Tmp} {w:World} {a b c d:Value} (h:fn.results=#[.tmp p,.tmp q,.tmp r,.tmp s]) (hp:ts.getD p undef=a) (hq:ts.getD q undef=b) (hr:ts.getD r undef=c) (hs:ts.getD s undef=d)
 (hR:R (.returned (.tuple #[a,b,c,d])) w):bodyPost P fn R .ret ⟨ts,[]⟩ w:=by
 refine bodyPost_ret (v:=.tuple #[a,b,c,d]) ?_ rfl hR
 unfold results
 rw [h]
 simp only [List.mapM_toArray,List.mapM_cons,List.mapM_nil,hp,hq,hr,hs,bind_assoc,pure_bind,map_eq_pure_bind,Sem.run_pure]
 rfl
def jX (B:Bk) (g:Grp):Bool:=(g.traffic.any fun x => !decide (yj x)) || !jG B g g.trunks.toNat
def zW (B:Bk):Nat→List Grp→Option Nat
 | _,[]=>none
 | i,g :: l=>if jX B g then some i else zW B (i+1) l
def yV (B:Bk):Nat→Nat→Option (Nat×Nat)
 | 0,_=>none
 | f+1,y=>match zW (qR B y) 0 (qR B y).gs with
   | some i=>some (y,i)
   | none=>yV B f (y+1)
def yearR:Option (Nat×Nat)→Value
 | some p=>.tuple #[.int .i64 p.1,.int .i64 p.2,.bool true,.int .i64 0]
 | none=>.tuple #[.int .i64 0,.int .i64 0,.bool false,.int .i64 0]
def yearV (B:Bk):Value:=if checkN B=0 then yearR (yV B 7 0) else .tuple #[.int .i64 0,.int .i64 0,.bool false,.int .i64 (checkN B)]
theorem JA {B:Bk} {l:List Grp} {k:Nat} {g:Grp} (h:l[k]? = some g):zW B k (l.drop k)=if jX B g then some k else zW B (k+1) (l.drop (k+1)):=by
 obtain ⟨hk,rfl⟩:=List.getElem?_eq_some_iff.1 h
 rw [List.drop_eq_getElem_cons hk]
 rfl
theorem Jr (B B':Bk) (g:Grp) (h:B'.lim=B.lim):jX B' (blank g)=jX B g:=by
 unfold jX jG
 rw [h];rfl
theorem je (B B':Bk) (h:B'.lim=B.lim):∀(l:List Grp) (i:Nat),zW B' i (l.map blank)=zW B i l
 | [],_=>rfl
 | g :: l,i=>by simp only [List.map_cons,zW,Jr B B' g h,je B B' h l]
theorem JB {B B':Bk} {l l':List Grp} (h:B'.lim=B.lim) (hs:zI l l'):zW B' 0 l'=zW B 0 l:=by
 rw [← je B' { B' with gs:=[] } rfl l',← je B { B' with gs:=[] } h l,Zr hs]
set_option maxHeartbeats 2000000 in
set_option maxRecDepth 100000 in
theorem Year_bad (B:Bk) (w:World) (h:BookAt w B) (hG:Globs w) (hc:checkN B≠0):Calls qf 20 #[bv B] w fun e w'=>e=.returned (.tuple #[.int .i64 0,.int .i64 0,.bool false,.int .i64 (checkN B)])∧Below w.heap.size w w':=by
 have hop:=fun W (hB:Below w.heap.size w W)=>yw B true W (h.keep hB) (hG.keep hB)
 simp only [Zm,if_neg hc] at hop
 generalize checkN B=r at *
 have hrb:(r != 0)=true:=by simp [hc]
 obtain ⟨lim,gr,hr,gs,ga,gc⟩:=B
 simp only [bv,bz] at *
 clear h hG hc
 go_enter s20,ntmps20
 go_wp2_with (go_at_call 42;(with_reducible refine (hop _ (by go_grown)).mono ?_);rintro e w1 ⟨rfl,hB1⟩;(first | (replace hB:=bcl (by with_reducible assumption) hB1) | (replace hB:=bcl (by go_grown) hB1) | (have hB:=hB1));(try clear hc hg hz);obtain ⟨hc,hg⟩:=qx hB;have hz:=hB.size;clear hB1;(try simp at hz);(try have hlt0:w.heap.size < w1.heap.size:=by omega))
 have hBw:=bcl (w:=w) (by go_grown) hB
 exact qch results20 rfl rfl rfl rfl ⟨rfl,hBw.alloc hBw.size _⟩
def YearAt (B:Bk) (y:Nat) (W:World) (l:List Grp) (ga:Option Addr) (gc:Nat):Prop:=zI (qR B y).gs l∧BookAt W { B with gs:=l,ga:=ga,gc:=gc }
set_option maxHeartbeats 4000000 in
set_option maxRecDepth 100000 in
theorem Year_ok (B:Bk) (w:World) (h:BookAt w B) (hG:Globs w) (hc:checkN B=0):Calls qf 20 #[bv B] w fun e w'=>e=.returned (yearR (yV B 7 0))∧Below w.heap.size w w':=by
 have hop:=fun W (hB:Below w.heap.size w W)=>yw B true W (h.keep hB) (hG.keep hB)
 simp only [Zm,if_pos hc] at hop
 have hV:=qI hc
 have HS:=Lib.hid h.small
 have HV:=Lib.hid hV
 have H:=Lib.hid h
 have hfl:∀g∈B.gs,1≤g.traffic.length:=fun g hg=>by have:=(hV.grp g hg).len;have:=hV.num.2.2.1;omega
 have HF:=Lib.hid hfl
 obtain ⟨R,hR⟩:∃R,yV B 7 0=R:=⟨_,rfl⟩
 rw [hR]
 have HR:=Lib.hid hR
 have hsm:=h.small
 clear hfl hV hR
 obtain ⟨lim,gr,hr,gs,ga,gc⟩:=B
 simp only [bv,bz] at *
 clear h hG hc
 go_enter s20,ntmps20
 go_upto_region 4 with ((go_at_call 42;(with_reducible refine (hop _ (by go_grown)).mono ?_);rintro e w1 ⟨rfl,hB1⟩;(first | (replace hB:=bcl (by with_reducible assumption) hB1) | (replace hB:=bcl (by go_grown) hB1) | (have hB:=hB1));(try clear hc hg hz);obtain ⟨hc,hg⟩:=qx hB;have hz:=hB.size;clear hB1;(try simp at hz);(try have hlt0:w.heap.size < w1.heap.size:=by omega)))
 have hF6:=Five.new w1 (.int .i64 lim.1) (.int .i64 lim.2) (.int .i64 gr) (.int .i64 hr) (.slice ga gs.length gc) 67
 have hBw:=(bcl (w:=w) (by go_grown) hB).alloc (w:=w1) (by omega) (.cells #[.int .i64 lim.1,.int .i64 lim.2,.int .i64 gr,.int .i64 hr,.slice ga gs.length gc] 67)
 obtain ⟨W,hW⟩:∃W,w1.alloc (.cells #[.int .i64 lim.1,.int .i64 lim.2,.int .i64 gr,.int .i64 hr,.slice ga gs.length gc] 67)=W:=⟨_,rfl⟩
 obtain ⟨q,hq⟩:∃q,w1.heap.size=q:=⟨_,rfl⟩
 have hwq:w.heap.size < q:=by omega
 rw [hq] at hF6
 rw [hW] at hF6 hBw ⊢
 rw [hq]
 clear hW hc hg hB hz hq
 go_wp2
 have hY:YearAt ⟨lim,gr,hr,gs,ga,gc⟩ 0 W gs ga gc:=⟨.refl _,H.out.keep hBw⟩
 go_loopw [18] (fun i wr=>∃y:Nat,i=.int .i64 y∧y≤7∧Below w.heap.size w wr∧Hid (yV ⟨lim,gr,hr,gs,ga,gc⟩ (7 - y) y=R)∧∃l a c,Hid (YearAt ⟨lim,gr,hr,gs,ga,gc⟩ y wr l a c)∧Hid (Five wr q (.int .i64 lim.1) (.int .i64 lim.2) (.int .i64 gr) (.int .i64 hr) (.slice a l.length c))) (fun i _=>7 - (intOf i).toNat)
 case atStart=>exact ⟨0,rfl,by omega,hBw,HR,gs,ga,gc,Lib.hid hY,Lib.hid hF6⟩
 case round =>
  clear hF6 hBw hY hop
  obtain ⟨y,rfl,hy,hBr,HY,l,a,c,hA,hF⟩:=hrel
  obtain ⟨⟨e0,e1,e2,e3,e4⟩,⟨k0,k1,k2,k3,k4⟩⟩:=id hF.out
  have hll:l.length=gs.length:=by rw [hA.out.1.1,Qa]
  obtain ⟨b,o,hla,hcs⟩:=hA.out.2.row (by rw [hll];exact HV.out.len1)
  simp only at hla
  subst hla
  have hl20:l.length≤20:=by rw [hll];exact HS.out.1
  have HLL:=Lib.hid hll
  clear hll
  by_cases hlt:y < 7
  ·have hy1:(y:Int) < 7:=by omega
   have hy0:(0:Int)≤(y:Int):=Int.natCast_nonneg y
   have HYs:Hid (yV ⟨lim,gr,hr,gs,ga,gc⟩ (7 - y) y=match zW ⟨lim,gr,hr,l,some ⟨b,o,none⟩,c⟩ 0 l with | some i=>some (y,i) | none=>yV ⟨lim,gr,hr,gs,ga,gc⟩ (7 - (y+1)) (y+1)):=Lib.hid (by
    rw [show 7 - y=(7 - (y+1))+1 by omega]
    show (match zW (qR ⟨lim,gr,hr,gs,ga,gc⟩ y) 0 (qR ⟨lim,gr,hr,gs,ga,gc⟩ y).gs with | some i=>some (y,i) | none=>yV ⟨lim,gr,hr,gs,ga,gc⟩ (7 - (y+1)) (y+1))=_
    rw [← JB (B':=⟨lim,gr,hr,l,some ⟨b,o,none⟩,c⟩) (by rw [(xV _ y).1]) hA.out.1])
   have HC:=Lib.hid hcs
   have hlb:b < wr.heap.size:=lt_of_cell (hcs 0 _ (List.getElem?_eq_getElem (show 0 < l.length by rw [HLL.out];exact HV.out.len1))).1
   clear hcs
   go_wp2
   obtain ⟨V,hV⟩:∃V,V=wr:=⟨_,rfl⟩
   subst hV
   go_loopw [25] (fun i w3=>∃j:Nat,i=.int .i64 j∧j≤l.length∧Below V.heap.size V w3∧Hid (zW ⟨lim,gr,hr,l,some ⟨b,o,none⟩,c⟩ 0 l=zW ⟨lim,gr,hr,l,some ⟨b,o,none⟩,c⟩ j (l.drop j))) (fun i _=>l.length - (intOf i).toNat)
   case atStart=>exact ⟨0,rfl,by omega,.refl _ _,Lib.hid rfl⟩
   case round =>
    obtain ⟨j,rfl,hj,hB3,HJ⟩:=hrel
    have hBr3:=bcl hBr hB3
    have e0:=qb _ hB3 e0
    have e1:=qb _ hB3 e1
    have e2:=qb _ hB3 e2
    have e3:=qb _ hB3 e3
    have e4:=qb _ hB3 e4
    have k0:=qg _ hB3 (hF.out.c.1) k0
    have k1:=qg _ hB3 (hF.out.c.2.1) k1
    have k2:=qg _ hB3 (hF.out.c.2.2.1) k2
    have k3:=qg _ hB3 (hF.out.c.2.2.2.1) k3
    have k4:=qg _ hB3 (hF.out.c.2.2.2.2) k4
    have hq3:q < wr.heap.size:=lt_of_cell e0
    have hVs:=hB3.size
    by_cases hjl:j < l.length
    ·obtain ⟨x,hx⟩:∃x,l[j]? = some x:=⟨l[j],by simp [hjl]⟩
     obtain ⟨c0,c1,c2⟩:=HC.out j x hx
     have c0:=qb _ hB3 c0
     have c1:=qb _ hB3 c1
     have c2:=qb _ hB3 c2
     have hm:x∈l:=List.mem_of_getElem? hx
     have hsx:=(hA.out.2.small.2 x hm).1
     have htf:=fun (W:World) (hB:Below V.heap.size V W)=>yM 70 #[] (fun args w=>c70 args w) (fun x => !decide (yj x)) x.traffic x.ta x.tc (by omega) W ((hA.out.2.traf x hm).keep hB) (fun x _ W' _=>qdF x W')
     have hT7:0≤x.trunks∧x.trunks≤7:=by
      have hi:=(List.getElem?_eq_some_iff.1 hx).1
      obtain ⟨z,hz⟩:∃z,(qR ⟨lim,gr,hr,gs,ga,gc⟩ y).gs[j]? = some z:=⟨(qR ⟨lim,gr,hr,gs,ga,gc⟩ y).gs[j]'(by rw [← hA.out.1.1];exact hi),by simp⟩
      obtain ⟨u,hu,_,hu2,_⟩:=xU _ y j z hz
      have hgu:=HV.out.grp u (List.mem_of_getElem? hu)
      rw [(hA.out.1.2 j z x hz hx).2.1,hu2]
      exact ⟨hgu.tr0,hgu.tr7⟩
     obtain ⟨T,hT⟩:=Int.eq_ofNat_of_zero_le hT7.1
     have hT8:T≤7:=by omega
     have hfi:=fun (W:World) (hB:Below V.heap.size V W) (htr:∀z∈x.traffic,yj z)=>XT ⟨lim,gr,hr,l,some ⟨b,o,none⟩,c⟩ j T x hx hT8 W ⟨hA.out.2.keep hB,HV.out.num.1⟩ htr
     have hbd:Hid (zW ⟨lim,gr,hr,l,some ⟨b,o,none⟩,c⟩ j (l.drop j)=if jX ⟨lim,gr,hr,l,some ⟨b,o,none⟩,c⟩ x then some j else zW ⟨lim,gr,hr,l,some ⟨b,o,none⟩,c⟩ (j+1) (l.drop (j+1))):=Lib.hid (JA hx)
     rw [hT] at c1
     have hYB:Hid (jX ⟨lim,gr,hr,l,some ⟨b,o,none⟩,c⟩ x=((x.traffic.any fun x => !decide (yj x)) || !jG ⟨lim,gr,hr,l,some ⟨b,o,none⟩,c⟩ x T)):=Lib.hid (by unfold jX;rw [hT];rfl)
     have hj20:(j:Int) < (l.length:Int):=by omega
     have hj0:(0:Int)≤(j:Int):=Int.natCast_nonneg j
     clear hx hm hT7 hT hT8 hsx
     simp only [bv] at hfi
     by_cases ha:(x.traffic.any fun x => !decide (yj x))=true
     ·rw [ha] at htf
      have HA:=Lib.hid ha
      have htr:True:=trivial
      clear ha hfi
      go_wp2_with (first | (go_at_call 69;(with_reducible refine (htf _ (by go_grown)).mono ?_);rintro e w1 ⟨rfl,hB1⟩;have hBx:=Below.call (B:=V.heap.size) (w:=V) (by go_grown) hB1 (Nat.le_refl _);obtain ⟨hc,hg⟩:=qx hB1;have hs1:=hB1.size;(simp at hs1);have hq4:q < wr.heap.size+1:=(by omega)) | (go_at_call 56;(with_reducible refine (hfi _ (by first | exact hBx | go_grown) htr).mono ?_);rintro e w2 ⟨rfl,hB2⟩;have hBy:=Below.call (B:=V.heap.size) (w:=V) (by first | exact hBx | go_grown) hB2 (Nat.le_refl _)))
      have hRR:R=some (y,j):=by rw [← HY.out,HYs.out,HJ.out,hbd.out,hYB.out,HA.out];rfl
      exact qch results20 rfl rfl rfl rfl ⟨by rw [hRR];rfl,bcl hBr hBx⟩
     ·have ha:(x.traffic.any fun x => !decide (yj x))=false:=by simpa using ha
      have htr:∀z∈x.traffic,yj z:=fun z hz=>by
       have:=List.any_eq_false.1 ha z hz
       simpa using this
      rw [ha] at htf
      have HA:=Lib.hid ha
      clear ha
      cases hb:jG ⟨lim,gr,hr,l,some ⟨b,o,none⟩,c⟩ x T with
      | false =>
        rw [hb] at hfi
        have HB:=Lib.hid hb
        clear hb
        go_wp2_with (first | (go_at_call 69;(with_reducible refine (htf _ (by go_grown)).mono ?_);rintro e w1 ⟨rfl,hB1⟩;have hBx:=Below.call (B:=V.heap.size) (w:=V) (by go_grown) hB1 (Nat.le_refl _);obtain ⟨hc,hg⟩:=qx hB1;have hs1:=hB1.size;(simp at hs1);have hq4:q < wr.heap.size+1:=(by omega)) | (go_at_call 56;(with_reducible refine (hfi _ (by first | exact hBx | go_grown) htr).mono ?_);rintro e w2 ⟨rfl,hB2⟩;have hBy:=Below.call (B:=V.heap.size) (w:=V) (by first | exact hBx | go_grown) hB2 (Nat.le_refl _)))
        have hRR:R=some (y,j):=by rw [← HY.out,HYs.out,HJ.out,hbd.out,hYB.out,HA.out,HB.out];rfl
        exact qch results20 rfl rfl rfl rfl ⟨by rw [hRR];rfl,bcl hBr hBy⟩
      | true =>
        rw [hb] at hfi
        have HB:=Lib.hid hb
        clear hb
        go_wp2_with (first | (go_at_call 69;(with_reducible refine (htf _ (by go_grown)).mono ?_);rintro e w1 ⟨rfl,hB1⟩;have hBx:=Below.call (B:=V.heap.size) (w:=V) (by go_grown) hB1 (Nat.le_refl _);obtain ⟨hc,hg⟩:=qx hB1;have hs1:=hB1.size;(simp at hs1);have hq4:q < wr.heap.size+1:=(by omega)) | (go_at_call 56;(with_reducible refine (hfi _ (by first | exact hBx | go_grown) htr).mono ?_);rintro e w2 ⟨rfl,hB2⟩;have hBy:=Below.call (B:=V.heap.size) (w:=V) (by first | exact hBx | go_grown) hB2 (Nat.le_refl _)))
        go_roundw
        case rel=>exact ⟨j+1,rfl,by omega,hBy,Lib.hid (HJ.out.trans (by rw [hbd.out,hYB.out,HA.out,HB.out];rfl))⟩
        case measure=>simp [intOf];omega
    ·obtain rfl:j=l.length:=by omega
     have hgr:=JO ⟨lim,gr,hr,l,some ⟨b,o,none⟩,c⟩ wr (hA.out.2.keep hB3) (by rw [HLL.out];exact HV.out.len1) (fun x hx=>by
      obtain ⟨i,hi,rfl⟩:=List.getElem_of_mem hx
      obtain ⟨z,hz⟩:∃z,(qR ⟨lim,gr,hr,gs,ga,gc⟩ y).gs[i]? = some z:=⟨(qR ⟨lim,gr,hr,gs,ga,gc⟩ y).gs[i]'(by rw [← hA.out.1.1];exact hi),by simp⟩
      obtain ⟨u,hu,_,_,hu3⟩:=xU _ y i z hz
      have hs:=(hA.out.1.2 i z l[i] hz (by simp)).2.2
      rw [hs,hu3]
      exact HF.out u (List.mem_of_getElem? hu)) HV.out.num.2.1.1 (by have:=HV.out.num.2.1.2;simp only at this ⊢;omega)
     simp only [bv] at hgr
     have HNo:Hid (yV ⟨lim,gr,hr,gs,ga,gc⟩ (7 - (y+1)) (y+1)=R):=Lib.hid (by
      rw [← HY.out,HYs.out,HJ.out,List.drop_length];rfl)
     go_wp2
     go_at_call 67
     refine hgr.mono ?_
     rintro e w4 ⟨⟨g1,gc1,l1,tb1,rfl,hS1,hO1,hc1⟩,hB4⟩
     have hF4:=(hF.out.keep hB3).keep hB4
     have hBx:=bcl hBr3 hB4
     clear e0 e1 e2 e3 e4 k0 k1 k2 k3 k4 hgr hB4
     obtain ⟨⟨e0,e1,e2,e3,e4⟩,⟨k0,k1,k2,k3,k4⟩⟩:=id hF4
     simp only [bv,Yy]
     go_wp2
     go_roundw
     case rel =>
      refine ⟨y+1,rfl,by omega,Below.set5 hBx (by omega),HNo,l1,some ⟨g1,0,none⟩,gc1,Lib.hid ⟨?_,?_⟩,Lib.hid (hF4.put _ _ _ _ _)⟩
      ·have h2:=(YN (r:=gr) hA.out.1).trans hS1
       have e:=(xV ⟨lim,gr,hr,gs,ga,gc⟩ y).2.1
       simp only [qR,Yy,e]
       exact h2
      ·refine Yj (B:=Yy ⟨lim,gr,hr,l,some ⟨b,o,none⟩,c⟩) hS1 (hO1.five' rfl hq3) hc1 ⟨by simpa [Yy] using hl20,fun z hz=>?_⟩
       obtain ⟨u,hu,rfl⟩:=List.mem_map.1 hz
       have:=hA.out.2.small.2 u hu
       simpa [ZO] using this
     case measure=>simp [intOf];omega
  ·obtain rfl:y=7:=by omega
   have hRR:R=none:=by rw [← HY.out];rfl
   subst hRR
   go_wp2
   exact qch results20 rfl rfl rfl rfl ⟨rfl,hBr⟩
theorem Year_any (B:Bk) (w:World) (h:BookAt w B) (hG:Globs w):Calls qf 20 #[bv B] w fun e w'=>e=.returned (yearV B)∧Below w.heap.size w w':=by
 unfold yearV
 by_cases hc:checkN B=0
 ·rw [if_pos hc];exact Year_ok B w h hG hc
 ·rw [if_neg hc];exact Year_bad B w h hG hc
structure UpX (x y:Int×Int):Prop where
 bot:y.2=x.2
 b1:1≤x.2∧x.2≤4
 pos:0≤x.1
 up:x.1≤y.1∨12 < y.1
def Qr (x:Int×Int) (T:Nat):Int×Int:=low ((qJ x T).1 * (qJ x (T+1)).2 - (qJ x (T+1)).1 * (qJ x T).2) ((qJ x T).2 * (qJ x (T+1)).2)
def qfy (a b:Int) (T:Nat):Bool:=let p:=qJ (a,b) T;let q:=qJ (a,b) (T+1);decide (p.1 * q.2 < 4611686018427387904) && decide (p.2 * q.2 < 4611686018427387904) && decide (q.1 * p.2≤p.1 * q.2)
set_option maxRecDepth 100000 in
theorem qbr:(List.range 13).all (fun a=>(List.range 4).all fun b=>(List.range 7).all fun T=>qfy a (b+1) T)=true:=by decide +kernel
theorem qci {x:Int×Int} (h1:0≤x.1) (h2:x.1≤12) (h3:1≤x.2) (h4:x.2≤4) {T:Nat} (hT:T≤6) :
 (qJ x T).1 * (qJ x (T+1)).2 < 4611686018427387904∧(qJ x T).2 * (qJ x (T+1)).2 < 4611686018427387904∧(qJ x (T+1)).1 * (qJ x T).2≤(qJ x T).1 * (qJ x (T+1)).2:=by
 obtain ⟨a,b⟩:=x
 simp only at h1 h2 h3 h4
 obtain ⟨n,rfl⟩:=Int.eq_ofNat_of_zero_le h1
 obtain ⟨k,hk⟩:=Int.eq_ofNat_of_zero_le (show 0≤b - 1 by omega)
 obtain rfl:b=(k:Int)+1:=by omega
 have h:=qbr
 rw [List.all_eq_true] at h
 have h:=h n (List.mem_range.2 (by omega))
 rw [List.all_eq_true] at h
 have h:=h k (List.mem_range.2 (by omega))
 rw [List.all_eq_true] at h
 have h:=h T (List.mem_range.2 (by omega))
 simp only [qfy,Bool.and_eq_true,decide_eq_true_eq] at h
 exact ⟨h.1.1,h.1.2,h.2⟩
theorem qeA (m:Nat) (T:Nat) (x:Int×Int) (h1:0≤x.1) (h2:x.1≤12) (h3:1≤x.2) (h4:x.2≤4) (hT:T≤7) (w:World) (hL:∃L,Jt w m L) :
 Calls qf 131 #[.map (some m),fv x,.int .i64 T] w fun e w'=>e=.returned (fv (qJ x T))∧Zv m w w':=by
 obtain ⟨L,hL⟩:=hL
 exact lost_any m L T x h1 h2 h3 h4 hT w hL
def zY (m:Nat) (W:World):Prop:=∃L,Jt W m L
abbrev xL (w:World) (m gb xb rb T:Nat) (x:Int×Int) (W:World):Prop :=
 W.cell? ⟨xb,0,none⟩=some (.int .i64 x.1)∧W.cell? ⟨xb,1,none⟩=some (.int .i64 x.2)∧W.cell? ⟨gb,1,none⟩=some (.int .i64 T)∧W.cell? ⟨rb,0,none⟩=some (atD W ⟨rb,0,none⟩)∧W.cell? ⟨rb,1,none⟩=some (atD W ⟨rb,1,none⟩) ∧
  W.frozen? ⟨rb,0,none⟩=false∧W.frozen? ⟨rb,1,none⟩=false∧zY m W∧w.grownBy W (some m)
theorem xL.call {w W w1:World} {m gb xb rb T:Nat} {x:Int×Int} (h:xL w m gb xb rb T x W) (hB:Below W.heap.size W w1):xL w m gb xb rb T x w1:=by
 obtain ⟨a,b,c,d,e,f,g,⟨L,i⟩,j⟩:=h
 exact ⟨qb _ hB a,qb _ hB b,qb _ hB c,qO (qA (qb _ hB d)),qO (qA (qb _ hB e)),qg _ hB d f,qg _ hB e g,⟨L,i.keep hB⟩,zL j (zh hB)⟩
theorem xL.lost {w W w1:World} {m gb xb rb T:Nat} {x:Int×Int} (h:xL w m gb xb rb T x W) (hm:m < gb) (hm2:m < xb) (hm3:m < rb) (hO:Zv m W w1):xL w m gb xb rb T x w1:=by
 obtain ⟨a,b,c,d,e,f,g,⟨L,i⟩,j⟩:=h
 obtain ⟨⟨L',k⟩,q⟩:=hO
 have n1:xb≠m:=Nat.ne_of_gt hm2
 have n2:gb≠m:=Nat.ne_of_gt hm
 have n3:rb≠m:=Nat.ne_of_gt hm3
 exact ⟨qp q a n1,qp q b n1,qp q c n2,qO (qA (qp q d n3)),qO (qA (qp q e n3)),qB q d f n3,qB q e g n3,⟨L',k⟩,zL j q⟩
theorem xL.put {w W:World} {m gb xb rb T:Nat} {x:Int×Int} (u v:Value) (h:xL w m gb xb rb T x W) (h1:rb≠xb) (h2:rb≠gb) (h3:w.heap.size≤rb) (h4:m < rb):xL w m gb xb rb T x ((W.setCell ⟨rb,0,none⟩ u).setCell ⟨rb,1,none⟩ v):=by
 obtain ⟨a,b,c,d,e,f,g,⟨L,i⟩,j⟩:=h
 have n1:∀p q,(⟨rb,p,none⟩:Addr)≠⟨xb,q,none⟩:=fun p q h=>h1 (congrArg Addr.block h)
 have n2:∀p q,(⟨rb,p,none⟩:Addr)≠⟨gb,q,none⟩:=fun p q h=>h2 (congrArg Addr.block h)
 exact ⟨qd (n1 _ _) (qd (n1 _ _) a),qd (n1 _ _) (qd (n1 _ _) b),qd (n2 _ _) (qd (n2 _ _) c),qO (qy (qy (qA d))),qO (qy (qy (qA e))),by simpa using f,by simpa using g,
  ⟨L,i.block ((Below.heap_setCell _ _ _ _ (Nat.ne_of_lt h4)).trans (Below.heap_setCell _ _ _ _ (Nat.ne_of_lt h4)))⟩,yI (yI j h3 _) h3 _⟩
set_option maxHeartbeats 4000000 in
set_option maxRecDepth 100000 in
theorem qfz (m:Nat) (g:Grp) (hr T:Nat) (x:Int×Int) (hx:g.traffic[hr]? = some x) (ht:yj x) (hgT:g.trunks=T) (hT:T≤6) (w:World) (hL:∃L,Jt w m L) (hf:yR w g) :
 Calls qf 120 #[.map (some m),gv g,.int .i64 hr] w fun e w'=>e=.returned (fv (Qr (low x.1 x.2) T))∧Zv m w w':=by
 obtain ⟨k1,k2,k3,k4⟩:=jP ht.1.1 ht.1.2 ht.2.1 ht.2.2
 have hof:=fun W=>YF x W ht.1.1 (by have:=ht.2.1;omega) (by have:=ht.1.2;omega) (by have:=ht.2.2;omega)
 have hlo:=fun W h=>qeA m T (low x.1 x.2) k1 k2 k3 k4 (by omega) W h
 have hlo2:=fun W h=>qeA m (T+1) (low x.1 x.2) k1 k2 k3 k4 (by omega) W h
 obtain ⟨b1,b2,b3⟩:=qci k1 k2 k3 k4 hT
 obtain ⟨p1,p2,_⟩:=yZ k1 k2 k3 k4 T (by omega)
 obtain ⟨q1,q2,_⟩:=yZ k1 k2 k3 k4 (T+1) (by omega)
 have hmi:=fun W=>qaa (qJ (low x.1 x.2) T) (qJ (low x.1 x.2) (T+1)) W p1 (by omega) q1 (by omega) b1 b2 b3
 have hlen:hr < g.traffic.length:=(List.getElem?_eq_some_iff.1 hx).1
 obtain ⟨tb,t0,hta,hpa⟩:=hf (by omega)
 obtain ⟨d0,d1⟩:=hpa hr x hx
 have hmlt:m < w.heap.size:=by obtain ⟨L,h⟩:=hL;exact h.lt
 have htl:tb < w.heap.size:=lt_of_cell d0
 have HL:=Lib.hid hL
 unfold Qr
 generalize qJ (low x.1 x.2) (T+1)=q at *
 generalize qJ (low x.1 x.2) T=p at *
 generalize low x.1 x.2=y at *
 generalize low (p.1 * q.2 - q.1 * p.2) (p.2 * q.2)=r at *
 simp only [gv,hgT,hta]
 simp only [fv] at *
 have hh0:(0:Int)≤(hr:Int):=Int.natCast_nonneg hr
 have hh1:(hr:Int) < (g.traffic.length:Int):=by omega
 have hc1:((T+1:Nat):Int)=(T:Int)+1:=by omega
 simp only [hc1] at hlo2
 clear b1 b2 b3 p1 p2 q1 q2 hpa hx hL hc1 ht
 go_enter s120,ntmps120
 go_wp2_with (go_at_call 46;(with_reducible refine (hof _).mono ?_);rintro e w1 ⟨rfl,hB1⟩;(first | (replace hB:=bcl (by with_reducible assumption) hB1) | (replace hB:=bcl (by go_grown) hB1) | (have hB:=hB1));(try clear hc hg hz);obtain ⟨hc,hg⟩:=qx hB;have hz:=hB.size;clear hB1;(try simp at hz);(try have hlt0:w.heap.size < w1.heap.size:=by omega))
 have hBx:=bcl (w:=w) (by go_grown) hB
 have hl1:zY m w1:=by obtain ⟨L,h⟩:=HL.out;exact ⟨L,h.keep hBx⟩
 have hX:xL w m w.heap.size w1.heap.size (w.heap.size+1) T y (w1.alloc (.cells #[.int .i64 y.1,.int .i64 y.2] 72)).drew:=by
  have c0:w1.cell? ⟨w.heap.size,1,none⟩=some (.int .i64 T):=by rw [hc _ _ (by simp <;> omega)];go_cell
  have r0:w1.cell? ⟨w.heap.size+1,0,none⟩=some (.int .i64 0):=by rw [hc _ _ (by simp <;> omega)];go_cell
  have r1:w1.cell? ⟨w.heap.size+1,1,none⟩=some (.int .i64 0):=by rw [hc _ _ (by simp <;> omega)];go_cell
  have f0:w1.frozen? ⟨w.heap.size+1,0,none⟩=false:=by rw [hg _ _ (by simp <;> omega)];go_cell
  have f1:w1.frozen? ⟨w.heap.size+1,1,none⟩=false:=by rw [hg _ _ (by simp <;> omega)];go_cell
  obtain ⟨L,h⟩:=hl1
  have hb2:Below w1.heap.size w1 (w1.alloc (.cells #[.int .i64 y.1,.int .i64 y.2] 72)).drew:=((Below.refl _ w1).alloc (Nat.le_refl _) _).drew
  exact ⟨by go_cell,by go_cell,qi c0,qO (qA (qi r0)),qO (qA (qi r1)),qo r0 f0,qo r1 f1,⟨L,h.keep hb2⟩,zh (bcl hBx hb2)⟩
 have hw:IntKind.i64.wrap ((T:Int)+1)=(T:Int)+1:=IntWalk.i64_in _ (by omega)
 clear hc hg hB HL hl1
 go_region_held3 (fun W=>W.cell? ⟨w1.heap.size,0,none⟩=some (.int .i64 y.1)∧W.cell? ⟨w1.heap.size,1,none⟩=some (.int .i64 y.2)∧W.cell? ⟨w.heap.size,1,none⟩=some (.int .i64 T)∧W.cell? ⟨w.heap.size+1,0,none⟩=some (atD W ⟨w.heap.size+1,0,none⟩)∧W.cell? ⟨w.heap.size+1,1,none⟩=some (atD W ⟨w.heap.size+1,1,none⟩) ∧
  W.frozen? ⟨w.heap.size+1,0,none⟩=false∧W.frozen? ⟨w.heap.size+1,1,none⟩=false∧zY m W∧w.grownBy W (some m))
  (first | exact hX | ((with_reducible refine xL.lost ?_ ?_ ?_ ?_ hO);assumption;omega;omega;omega) | ((with_reducible refine xL.call ?_ hB1);assumption) | ((with_reducible refine xL.put _ _ ?_ ?_ ?_ ?_ ?_);assumption;omega;omega;omega;omega))
  (first | (go_at_call 131;(first | (with_reducible refine (hlo _ ?_).mono ?_) | (with_reducible refine (hlo2 _ ?_).mono ?_));(go_split_ands;assumption);rintro e w2 ⟨rfl,hO⟩) | (go_at_call 90;refine (hmi _).mono ?_;rintro e w2 ⟨rfl,hB1⟩))
 all_goals
  go_wp2
  rename_i hH
  obtain ⟨_,_,_,u0,u1,_,_,uM,uG⟩:=hH
  exact yU results120 zT zF rfl (qO (qX (qX (qA u0)))) (qO (qX (qX (qA u1)))) ⟨rfl,uM,uG⟩
theorem YO {x:Int×Int} (h1:0≤x.1) (h2:x.1≤12) (h3:1≤x.2) (h4:x.2≤4) {T:Nat} (hT:T≤6):0≤(Qr x T).1∧(Qr x T).1 < 4611686018427387904∧1≤(Qr x T).2∧(Qr x T).2 < 4611686018427387904:=by
 obtain ⟨b1,b2,b3⟩:=qci h1 h2 h3 h4 hT
 obtain ⟨p1,p2,_⟩:=yZ h1 h2 h3 h4 T (by omega)
 obtain ⟨q1,q2,_⟩:=yZ h1 h2 h3 h4 (T+1) (by omega)
 have m1:=Int.mul_nonneg q1 (show 0≤(qJ x T).2 by omega)
 have m2:0 < (qJ x T).2 * (qJ x (T+1)).2:=Int.mul_pos (by omega) (by omega)
 unfold Qr
 obtain ⟨t1,t2,t3,t4,_⟩:=xw (a:=(qJ x T).1 * (qJ x (T+1)).2 - (qJ x (T+1)).1 * (qJ x T).2) (b:=(qJ x T).2 * (qJ x (T+1)).2) (by omega) m2
 exact ⟨t1,by omega,t3,by omega⟩
def zV (g:Grp) (h:Nat):Int×Int:=Qr (low (g.traffic.getD h (0,1)).1 (g.traffic.getD h (0,1)).2) g.trunks.toNat
def zb (B:Bk) (h:Nat):Nat→Int×(Int×Int)
 | 0=>(-1,(0,1))
 | k+1=>match B.gs[k]? with
   | none=>zb B h k
   | some g=>if g.trunks=7 then zb B h k else if (zb B h k).1=-1∨above (zV g h) (zb B h k).2=true then ((k:Int),zV g h) else zb B h k
theorem qbN {B:Bk} (hV:Valid B) {h:Nat} (hh:(h:Int) < B.hours):∀k,-1≤(zb B h k).1∧(zb B h k).1 < k∧0≤(zb B h k).2.1∧(zb B h k).2.1 < 4611686018427387904∧1≤(zb B h k).2.2∧(zb B h k).2.2 < 4611686018427387904
 | 0=>by simp [zb]
 | k+1=>by
   have ih:=qbN hV hh k
   simp only [zb]
   cases hg:B.gs[k]? with
   | none=>exact ⟨ih.1,by have:=ih.2.1;show (zb B h k).1 < ((k+1:Nat):Int);omega,ih.2.2⟩
   | some g =>
     simp only
     have hG:=hV.grp g (List.mem_of_getElem? hg)
     by_cases h7:g.trunks=7
     ·rw [if_pos h7];exact ⟨ih.1,by have:=ih.2.1;omega,ih.2.2⟩
     ·rw [if_neg h7]
      split
      ·have hl:h < g.traffic.length:=by have:=hG.len;omega
       have hx:=hG.traf _ (List.getElem_mem hl)
       obtain ⟨k1,k2,k3,k4⟩:=jP hx.1.1 hx.1.2 hx.2.1 hx.2.2
       have hs:=YO k1 k2 k3 k4 (T:=g.trunks.toNat) (by have:=hG.tr7;omega)
       have e:g.traffic.getD h (0,1)=g.traffic[h]:=by rw [List.getD_eq_getElem?_getD,List.getElem?_eq_getElem hl];rfl
       unfold zV
       rw [e]
       exact ⟨by show (-1:Int)≤(k:Int);omega,by show (k:Int) < ((k+1:Nat):Int);omega,hs⟩
      ·exact ⟨ih.1,by have:=ih.2.1;omega,ih.2.2⟩
structure BestS (w:World) (m:Nat) (x:Int×Int) (W:World):Prop where
 gr:w.grownBy W (some m)
 map:zY m W
 size:w.heap.size+3≤W.heap.size
 r0:W.cell? ⟨w.heap.size+1,0,none⟩=some (.int .i64 0)
 r1:W.cell? ⟨w.heap.size+1,1,none⟩=some (.int .i64 0)
 f0:W.frozen? ⟨w.heap.size+1,0,none⟩=false
 f1:W.frozen? ⟨w.heap.size+1,1,none⟩=false
 m0:W.cell? ⟨w.heap.size+1+1,0,none⟩=some (.int .i64 x.1)
 m1:W.cell? ⟨w.heap.size+1+1,1,none⟩=some (.int .i64 x.2)
 e0:W.frozen? ⟨w.heap.size+1+1,0,none⟩=false
 e1:W.frozen? ⟨w.heap.size+1+1,1,none⟩=false
theorem zY.keep {W W1:World} {m:Nat} (h:zY m W) (hB:Below W.heap.size W W1):zY m W1:=let ⟨L,h⟩:=h;⟨L,h.keep hB⟩
theorem zY.lt {W:World} {m:Nat} (h:zY m W):m < W.heap.size:=let ⟨_,h⟩:=h;h.lt
theorem zY.set {W:World} {m:Nat} (h:zY m W) {p:Addr} (hp:m≠p.block) (v:Value):zY m (W.setCell p v):=let ⟨L,h⟩:=h;⟨L,h.block (Below.heap_setCell _ _ _ _ hp)⟩
theorem BestS.call {w:World} {m:Nat} {x:Int×Int} {W W1:World} (h:BestS w m x W) (hB:Below W.heap.size W W1):BestS w m x W1 :=
 ⟨zL h.gr (zh hB),h.map.keep hB,Nat.le_trans h.size hB.size,qb _ hB h.r0,qb _ hB h.r1,qg _ hB h.r0 h.f0,qg _ hB h.r1 h.f1,qb _ hB h.m0,qb _ hB h.m1,qg _ hB h.m0 h.e0,qg _ hB h.m1 h.e1⟩
theorem BestS.one {w:World} {m:Nat} {x:Int×Int} {W W1:World} (h:BestS w m x W) (hm:m < w.heap.size) (hO:Zv m W W1):BestS w m x W1:=by
 have n1:w.heap.size+1≠m:=by omega
 have n2:w.heap.size+1+1≠m:=by omega
 exact ⟨zL h.gr hO.2,hO.1,Nat.le_trans h.size hO.2.size,qp hO.2 h.r0 n1,qp hO.2 h.r1 n1,qB hO.2 h.r0 h.f0 n1,qB hO.2 h.r1 h.f1 n1,qp hO.2 h.m0 n2,qp hO.2 h.m1 n2,qB hO.2 h.m0 h.e0 n2,qB hO.2 h.m1 h.e1 n2⟩
theorem BestS.put {w:World} {m:Nat} {x:Int×Int} {W:World} (y:Int×Int) (h:BestS w m x W) (hm:m < w.heap.size):BestS w m y ((W.setCell ⟨w.heap.size+1+1,0,none⟩ (.int .i64 y.1)).setCell ⟨w.heap.size+1+1,1,none⟩ (.int .i64 y.2)):=by
 have n1:∀p q,(⟨w.heap.size+1+1,p,none⟩:Addr)≠⟨w.heap.size+1,q,none⟩:=fun p q h=>by have:=congrArg Addr.block h;simp only at this;omega
 have hp:=ZP (.int .i64 y.1) (.int .i64 y.2) h.m0 h.m1
 exact ⟨yI (yI h.gr (by show _≤w.heap.size+1+1;omega) _) (by show _≤w.heap.size+1+1;omega) _,(h.map.set (by show m≠w.heap.size+1+1;omega) _).set (by show m≠w.heap.size+1+1;omega) _,by simpa using h.size,
  qd (n1 _ _) (qd (n1 _ _) h.r0),qd (n1 _ _) (qd (n1 _ _) h.r1),by simpa using h.f0,by simpa using h.f1,hp.1,hp.2,by simpa using h.e0,by simpa using h.e1⟩
theorem Yo {W:World} {m:Nat} (h:zY m W) {p:Addr} {v:Value} (hc:W.cell? p=some v):p.block≠m:=by
 rintro rfl
 obtain ⟨L,es,c,h1,_⟩:=h
 unfold World.cell? at hc
 rw [h1] at hc
 cases hc
theorem one_cell {w W:World} {m:Nat} (hM:zY m w) (h:w.grownBy W (some m)) {p:Addr} {v:Value} (hc:w.cell? p=some v):W.cell? p=some v:=qp h hc (Yo hM hc)
theorem yR.one {w W:World} {m:Nat} (hM:zY m w) (h:w.grownBy W (some m)) {g:Grp} (ht:yR w g):yR W g:=fun hl =>
 let ⟨b,o,e,hp⟩:=ht hl
 ⟨b,o,e,fun i x hx=>⟨one_cell hM h (hp i x hx).1,one_cell hM h (hp i x hx).2⟩⟩
def bestV (r:Int×(Int×Int)):Value:=.tuple #[.int .i64 r.1,fv r.2]
set_option maxHeartbeats 8000000 in
set_option maxRecDepth 100000 in
theorem qbO (B:Bk) (m h:Nat) (w:World) (hb:BookAt w B) (hV:Valid B) (hG:Globs w) (hL:zY m w) (hh:(h:Int) < B.hours) :
 Calls qf 76 #[bv B,.map (some m),.int .i64 h] w fun e w'=>e=.returned (bestV (zb B h B.gs.length))∧Zv m w w':=by
 have hml:=hL.lt
 obtain ⟨_,_,n0,n1⟩:=hG
 have hg0:1 < w.heap.size:=lt_of_cell n0
 have hg00:0 < w.heap.size:=Nat.lt_of_le_of_lt (Nat.zero_le _) hg0
 obtain ⟨b,o,hga,hcs⟩:=hb.row hV.len1
 have HB:=Lib.hid (qbN hV hh)
 have HV:=Lib.hid hV
 have HH:=Lib.hid hb
 have HC:=Lib.hid hcs
 have HS:Hid (∀k g,B.gs[k]? = some g→zb B h (k+1)=if g.trunks=7 then zb B h k else if (zb B h k).1=-1∨above (zV g h) (zb B h k).2=true then ((k:Int),zV g h) else zb B h k):=Lib.hid fun k g hg=>by simp only [zb,hg]
 have HZ:Hid (zb B h 0=(-1,(0,1))):=Lib.hid rfl
 have HL:=Lib.hid hL
 have HM0:=Lib.hid hL
 obtain ⟨N,hN⟩:∃N,N=zb B h:=⟨_,rfl⟩
 simp only [← hN] at HB HS HZ ⊢
 have hl4:=hV.len4
 clear hN hb hV hcs hL
 obtain ⟨lim,gr,hr,gs,ga,gc⟩:=B
 simp only at hga hh hl4
 subst hga
 unfold bestV
 simp only [bv,fv]
 go_enter s76,ntmps76
 go_wp2
 go_region
 go_wp2
 obtain ⟨W,hW⟩:∃W,(((w.alloc (Obj.cells #[.int .i64 lim.1,.int .i64 lim.2,.int .i64 gr,.int .i64 hr,.slice (some ⟨b,o,none⟩) gs.length gc] 67)).alloc (Obj.cells #[.int .i64 0,.int .i64 0] 72)).alloc (Obj.cells #[.int .i64 0,.int .i64 1] 72)).drew=W:=⟨_,rfl⟩
 have hBW:Below w.heap.size w W:=by subst hW;go_grown
 have hW0:BestS w m (0,1) W:=by
  subst hW
  exact ⟨zh hBW,HL.out.keep hBW,by simp,by go_cell,by go_cell,by go_cell,by go_cell,by go_cell,by go_cell,by go_cell,by go_cell⟩
 rw [hW]
 clear hW HL
 go_loopw [8,19] (fun gi i wr=>∃k:Nat,i=.int .i64 k∧k≤gs.length∧gi=.int .i64 (N k).1∧BestS w m (N k).2 wr) (fun _ i _=>gs.length - (intOf i).toNat)
 case atStart=>exact ⟨0,rfl,by omega,by rw [HZ.out],by rw [HZ.out];exact hW0⟩
 case round =>
  clear hW0 hBW
  obtain ⟨k,rfl,hk,rfl,hS⟩:=hrel
  have hsz:=hS.size
  have hgr:=hS.gr
  by_cases hlt:k < gs.length
  ·obtain ⟨g,hg⟩:∃g,gs[k]? = some g:=⟨gs[k],by simp [hlt]⟩
   have hm:g∈gs:=List.mem_of_getElem? hg
   obtain ⟨c0,c1,c2⟩:=HC.out k g hg
   have hbm:b≠m:=Yo HM0.out c0
   have c0:=qp hgr c0 hbm
   have c1:=qp hgr c1 hbm
   have c2:=qp hgr c2 hbm
   have hlb:b < wr.heap.size:=lt_of_cell c0
   have hlb2:b < wr.heap.size+1:=by omega
   have hGG:=HV.out.grp g hm
   obtain ⟨T,hT⟩:=Int.eq_ofNat_of_zero_le hGG.tr0
   have hT7:=hGG.tr7
   have hsn:=HS.out k g hg
   obtain ⟨v0,v1,v2,v3,v4,v5⟩:=HB.out k
   have hml2:m < wr.heap.size:=by omega
   by_cases h7:g.trunks=7
   ·rw [if_pos h7] at hsn
    rw [h7] at c1
    have HN:=Lib.hid hsn
    clear hsn hg hm h7 hT hT7 hGG
    go_wp2
    go_roundw
    case rel=>exact ⟨k+1,rfl,by omega,by rw [HN.out],by rw [HN.out];exact hS.call ((Below.refl _ wr).alloc (Nat.le_refl _) _)⟩
    case measure=>simp [intOf];omega
   ·rw [if_neg h7] at hsn
    have hT6:T≤6:=by omega
    have h7':((T:Int) == 7)=false:=by rw [beq_eq_false_iff_ne];omega
    rw [hT] at c1
    have hl:h < g.traffic.length:=by have:=hGG.len;simp only at this;omega
    have hxT:=hGG.traf _ (List.getElem_mem hl)
    have hsv:=fun W hM hF=>qfz m g h T g.traffic[h] (by simp [hl]) hxT hT hT6 W hM hF
    have eD:g.traffic.getD h (0,1)=g.traffic[h]:=by rw [List.getD_eq_getElem?_getD,List.getElem?_eq_getElem hl];rfl
    obtain ⟨k1,k2,k3,k4⟩:=jP hxT.1.1 hxT.1.2 hxT.2.1 hxT.2.2
    have hsb:=YO k1 k2 k3 k4 hT6
    have eS:zV g h=Qr (low g.traffic[h].1 g.traffic[h].2) T:=by unfold zV;rw [eD,hT,Int.toNat_natCast]
    rw [eS] at hsn
    have hF:=yR.one HM0.out hgr (HH.out.traf g hm)
    simp only [gv,hT,fv] at hsv
    have HSV:=Lib.hid (hsv (wr.alloc (.cells #[.string g.name,.int .i64 T,.slice g.ta g.traffic.length g.tc] 56)) (hS.map.keep ((Below.refl _ wr).alloc (Nat.le_refl _) _)) (hF.keep ((Below.refl _ wr).alloc (Nat.le_refl _) _)))
    clear hsv eD eS hxT k1 k2 k3 k4 hF
    generalize Qr (low g.traffic[h].1 g.traffic[h].2) T=y at *
    have hab:=fun W=>Yf y (N k).2 W hsb.1 (by have:=hsb.2.2.1;omega) v2 (by omega) hsb.2.1 hsb.2.2.2 v3 v5
    generalize N k=st at *
    obtain ⟨gi,z⟩:=st
    simp only [fv] at hsn hab hS v0 v1 ⊢
    have hS1:=hS.call ((Below.refl _ wr).alloc (Nat.le_refl _) (.cells #[.string g.name,.int .i64 T,.slice g.ta g.traffic.length g.tc] 56))
    have hsz1:wr.heap.size < (wr.alloc (.cells #[.string g.name,.int .i64 T,.slice g.ta g.traffic.length g.tc] 56)).heap.size:=by simp
    clear hm hg hT hT7 hGG hsb v2 v3 v4 v5 hS
    by_cases hgi:gi=-1
    ·rw [if_pos (.inl hgi)] at hsn
     have HN:=Lib.hid hsn
     subst hgi
     clear hsn hab
     go_wp2_with (go_at_call 120;(with_reducible refine HSV.out.mono ?_);rintro e w1 ⟨rfl,hO⟩;have hS2:=hS1.one hml hO;have hz2:=hS2.size;have g1:=hO.2.size;simp at g1;have hz3:w.heap.size+1+1 < w1.heap.size:=(by omega);obtain ⟨_,_,_,_,_,_,_,u0,u1,x0,x1⟩:=id hS2)
     go_region
     go_wp2
     go_roundw
     case rel=>exact ⟨k+1,rfl,by omega,by rw [HN.out],by rw [HN.out];exact ((hS2.put y hml).call ((Below.refl _ _).alloc (Nat.le_refl _) _)).call (Below.refl _ _).drew⟩
     case measure=>simp [intOf];omega
    ·have hgi':(gi == -1)=false:=by rw [beq_eq_false_iff_ne];exact hgi
     by_cases hab2:above y z=true
     ·rw [if_pos (.inr hab2)] at hsn
      have HN:=Lib.hid hsn
      simp only [hab2] at hab
      clear hsn hab2 hgi
      go_wp2_with (first | (go_at_call 120;(with_reducible refine HSV.out.mono ?_);rintro e w1 ⟨rfl,hO⟩;have hS2:=hS1.one hml hO;have hz2:=hS2.size;have g1:=hO.2.size;simp at g1;have hz3:w.heap.size+1+1 < w1.heap.size:=(by omega);obtain ⟨_,_,_,_,_,_,_,u0,u1,x0,x1⟩:=id hS2) | (go_at_call 47;(with_reducible refine (hab _).mono ?_);rintro e w2 ⟨rfl,hB2⟩;have hS3:=(hS2.call ((Below.refl _ _).alloc (Nat.le_refl _) (.cells #[.int .i64 y.1,.int .i64 y.2] 72))).call hB2;have y0:=qb ⟨w1.heap.size,0,none⟩ hB2 (v:=.int .i64 y.1) (by go_cell);have y1:=qb ⟨w1.heap.size,1,none⟩ hB2 (v:=.int .i64 y.2) (by go_cell);clear u0 u1 x0 x1;obtain ⟨_,_,_,_,_,_,_,u0,u1,x0,x1⟩:=id hS3))
      go_region
      go_wp2
      go_roundw
      case rel=>exact ⟨k+1,rfl,by omega,by rw [HN.out],by rw [HN.out];exact (hS3.put y hml).call (Below.refl _ _).drew⟩
      case measure=>simp [intOf];omega
     ·have hab2:above y z=false:=by simpa using hab2
      rw [if_neg (by rintro (h | h);exact hgi h;rw [hab2] at h;cases h)] at hsn
      have HN:=Lib.hid hsn
      simp only [hab2] at hab
      clear hsn hab2 hgi
      go_wp2_with (first | (go_at_call 120;(with_reducible refine HSV.out.mono ?_);rintro e w1 ⟨rfl,hO⟩;have hS2:=hS1.one hml hO;have hz2:=hS2.size;have g1:=hO.2.size;simp at g1;have hz3:w.heap.size+1+1 < w1.heap.size:=(by omega);obtain ⟨_,_,_,_,_,_,_,u0,u1,x0,x1⟩:=id hS2) | (go_at_call 47;(with_reducible refine (hab _).mono ?_);rintro e w2 ⟨rfl,hB2⟩;have hS3:=(hS2.call ((Below.refl _ _).alloc (Nat.le_refl _) (.cells #[.int .i64 y.1,.int .i64 y.2] 72))).call hB2))
      go_roundw
      case rel=>exact ⟨k+1,rfl,by omega,by rw [HN.out],by rw [HN.out];exact hS3⟩
      case measure=>simp [intOf];omega
  ·obtain rfl:k=gs.length:=by omega
   obtain ⟨q1,q2,q3,r0,r1,f0,f1,m0,m1,e0,e1⟩:=hS
   have hs1:w.heap.size+1 < wr.heap.size:=by omega
   go_wp2
   go_region
   go_wp2
   have hp:=ZP (.int .i64 (N gs.length).2.1) (.int .i64 (N gs.length).2.2) r0 r1
   refine bodyPost_ret (qdg results76 rfl rfl (xu zT zF hp.1 hp.2)) rfl ⟨rfl,?_,?_⟩
   ·exact ((q2.set (by show m≠w.heap.size+1;omega) _).set (by show m≠w.heap.size+1;omega) _).keep (Below.refl _ _).drew
   ·exact zL (yI (yI q1 (p:=⟨w.heap.size+1,0,none⟩) (Nat.le_succ _) _) (p:=⟨w.heap.size+1,1,none⟩) (Nat.le_succ _) _) (zh (Below.refl _ _).drew)
theorem YC (w:World):(Instr.makeMap 112 none).run qf w=.ok (.map (some w.heap.size)) (w.alloc (.map #[] 0)):=run_makeMap _ _
theorem Qc (w:World):zY w.heap.size (w.alloc (.map #[] 0)):=⟨[],#[],0,World.alloc_heap_new w _,rfl⟩
end Go.Proofs.Tryz
section
namespace Go.Proofs.Tryz
open Go Go.Load Go.RowKit Go.Maps
def Qv (l:List Grp) (b:Int):List Grp:=if b=-1 then l else match l[b.toNat]? with
 | some x=>l.set b.toNat { x with trunks:=x.trunks+1 }
 | none=>l
theorem jL:∀(l:List Grp) (k:Nat) (x:Grp) (t:Int),l[k]? = some x→qN (l.set k { x with trunks:=t })=(qN l).set (k * 3+1) (.int .i64 t)
 | [],k,x,t,h=>by simp at h
 | y :: l,0,x,t,h=>by
   obtain rfl:y=x:=by simpa using h
   rfl
 | y :: l,k+1,x,t,h=>by
   have ih:=jL l k x t (by simpa using h)
   have e:(k+1) * 3+1=(k * 3+1)+3:=by omega
   rw [e]
   show [Value.string y.name,.int .i64 y.trunks,.slice y.ta y.traffic.length y.tc] ++ qN (l.set k _)=_
   rw [ih]
   rfl
theorem OwnAt.one {W W1:World} {g m:Nat} {xs:List Value} (h:OwnAt W g xs) (k:W.grownBy W1 (some m)) (e:g≠m):OwnAt W1 g xs:=fun i u hu=>⟨qp k (h i u hu).1 e,qB k (h i u hu).1 (h i u hu).2 e⟩
theorem Five.one {W W1:World} {b m:Nat} {v0 v1 v2 v3 v4:Value} (h:Five W b v0 v1 v2 v3 v4) (k:W.grownBy W1 (some m)) (e:b≠m):Five W1 b v0 v1 v2 v3 v4:=by
 obtain ⟨⟨a0,a1,a2,a3,a4⟩,⟨f0,f1,f2,f3,f4⟩⟩:=h
 exact ⟨⟨qp k a0 e,qp k a1 e,qp k a2 e,qp k a3 e,qp k a4 e⟩,⟨qB k a0 f0 e,qB k a1 f1 e,qB k a2 f2 e,qB k a3 f3 e,qB k a4 f4 e⟩⟩
theorem Five.at {W:World} {b c j:Nat} {v v0 v1 v2 v3 v4:Value} (h:Five W b v0 v1 v2 v3 v4) (e:c≠b):Five (W.setCell ⟨c,j,none⟩ v) b v0 v1 v2 v3 v4:=by
 obtain ⟨⟨a0,a1,a2,a3,a4⟩,⟨f0,f1,f2,f3,f4⟩⟩:=h
 have n:∀q,(⟨c,j,none⟩:Addr)≠⟨b,q,none⟩:=fun q h=>e (congrArg Addr.block h)
 exact ⟨⟨qd (n _) a0,qd (n _) a1,qd (n _) a2,qd (n _) a3,qd (n _) a4⟩,by simpa using f0,by simpa using f1,by simpa using f2,by simpa using f3,by simpa using f4⟩
theorem OwnGs.one {base g k m:Nat} {W W1:World} {l:List Grp} {tb:Nat→Nat} (h:OwnGs base W g l k tb) (hk:W.grownBy W1 (some m)) (e:g≠m) (et:∀i,i < k→tb i≠m):OwnGs base W1 g l k tb :=
 ⟨h.lo,Nat.lt_of_lt_of_le h.hi hk.size,h.row.one hk e,fun i x hi hx=>let ⟨a,b,c,d,o,f⟩:=h.ta i x hi hx;⟨a,b,Nat.lt_of_lt_of_le c hk.size,d,o.one hk (et i hi),f⟩,h.apart⟩
theorem OwnGs.trunk {base g k:Nat} {W:World} {l:List Grp} {tb:Nat→Nat} {x:Grp} (h:OwnGs base W g l l.length tb) (hx:l[k]? = some x) (t:Int) :
 OwnGs base (W.setCell ⟨g,k * 3+1,none⟩ (.int .i64 t)) g (l.set k { x with trunks:=t }) (l.set k { x with trunks:=t }).length tb:=by
 have hk:k < l.length:=(List.getElem?_eq_some_iff.1 hx).1
 rw [List.length_set]
 refine ⟨h.lo,by simpa using h.hi,?_,fun i y hi hy=>?_,h.apart⟩
 ·rw [jL l k x t hx]
  exact h.row.set (by rw [yo];omega)
 ·by_cases e:k=i
  ·subst e
   rw [List.getElem?_set_self hk] at hy
   obtain rfl:=Option.some.inj hy
   obtain ⟨a,b,c,d,o,f⟩:=h.ta k x hi hx
   exact ⟨a,b,by simpa using c,d,o.other (Ne.symm d),f⟩
  ·rw [List.getElem?_set_ne e] at hy
   obtain ⟨a,b,c,d,o,f⟩:=h.ta i y hi hy
   exact ⟨a,b,by simpa using c,d,o.other (Ne.symm d),f⟩
structure SpSt (w:World) (B:Bk) (h q mc hc m g gc:Nat) (tb:Nat→Nat) (l:List Grp) (W:World):Prop where
 bel:Below w.heap.size w W
 own:OwnGs (q+1) W g l l.length tb
 gm:g < m
 tm:∀i,i < l.length→tb i < m
 box:Five W q (.int .i64 B.lim.1) (.int .i64 B.lim.2) (.int .i64 B.growth) (.int .i64 B.hours) (.slice (some ⟨g,0,none⟩) l.length gc)
 lo:w.heap.size≤hc
 hq:hc < q
 mm:m < mc
 mp:W.cell? ⟨mc,0,none⟩=some (.map (some m))
 hp:W.cell? ⟨hc,0,none⟩=some (.int .i64 h)
 map:zY m W
 cap:l.length≤gc
 small:l.length≤20∧∀x∈l,x.traffic.length≤20∧x.name.size≤100
variable {w W W1:World} {B:Bk} {h q mc hc m g gc:Nat} {tb:Nat→Nat} {l:List Grp}
theorem SpSt.keep (s:SpSt w B h q mc hc m g gc tb l W) (hB:Below W.heap.size W W1):SpSt w B h q mc hc m g gc tb l W1 :=
 ⟨bcl s.bel hB,s.own.keep hB,s.gm,s.tm,s.box.keep hB,s.lo,s.hq,s.mm,qb _ hB s.mp,qb _ hB s.hp,s.map.keep hB,s.cap,s.small⟩
theorem SpSt.one (s:SpSt w B h q mc hc m g gc tb l W) (hO:Zv m W W1):SpSt w B h q mc hc m g gc tb l W1:=by
 have h1:=s.own.lo
 have h2:=s.gm
 have h3:=s.lo
 have h4:=s.hq
 have h5:=s.mm
 exact ⟨s.bel.grown hO.2 s.bel.size (fun k e=>by cases e;omega),s.own.one hO.2 (by omega) (fun i hi=>by have:=s.tm i hi;omega),s.gm,s.tm,s.box.one hO.2 (by omega),s.lo,s.hq,s.mm,qp hO.2 s.mp (by show mc≠m;omega),qp hO.2 s.hp (by show hc≠m;omega),hO.1,s.cap,s.small⟩
theorem SpSt.trunk (s:SpSt w B h q mc hc m g gc tb l W) {k:Nat} {x:Grp} (hx:l[k]? = some x) (t:Int):SpSt w B h q mc hc m g gc tb (l.set k { x with trunks:=t }) (W.setCell ⟨g,k * 3+1,none⟩ (.int .i64 t)):=by
 have h1:=s.own.lo
 have h2:=s.gm
 have h3:=s.lo
 have h4:=s.hq
 have h5:=s.mm
 have n:∀b j,b≠g→(⟨g,k * 3+1,none⟩:Addr)≠⟨b,j,none⟩:=fun b j e h=>e (congrArg Addr.block h).symm
 refine ⟨s.bel.setCell (by show w.heap.size≤g;omega) _,s.own.trunk hx t,s.gm,fun i hi=>s.tm i (by simpa using hi),?_,s.lo,s.hq,s.mm,qd (n _ _ (by omega)) s.mp,qd (n _ _ (by omega)) s.hp,s.map.set (by show m≠g;omega) _,by simpa using s.cap,by simpa using s.small.1,fun y hy=>?_⟩
 ·rw [List.length_set];exact s.box.at (by omega)
 ·rcases List.mem_or_eq_of_mem_set hy with hy | rfl
  ·exact s.small.2 y hy
  ·exact s.small.2 x (List.mem_of_getElem? hx)
theorem SpSt.book (s:SpSt w B h q mc hc m g gc tb l W):BookAt W { B with gs:=l,ga:=some ⟨g,0,none⟩,gc:=gc } :=
 ⟨fun _=>⟨g,0,rfl,qad s.own.row⟩,fun x hx _=>by
   obtain ⟨i,hi,rfl⟩:=List.getElem_of_mem hx
   obtain ⟨a,_,_,_,b,_⟩:=s.own.ta i l[i] hi (by simp)
   exact ⟨tb i,0,a,qae b⟩,s.small,s.cap⟩
theorem Za {B:Bk} {h:Nat}:∀k,k≤B.gs.length→(zb B h k).1=-1∨∃(i:Nat) (x:Grp),(zb B h k).1=i∧B.gs[i]? = some x∧x.trunks≠7
 | 0,_=>.inl rfl
 | k+1,hk=>by
   obtain ⟨x,hx⟩:∃x,B.gs[k]? = some x:=⟨B.gs[k],by simp⟩
   have ih:=Za (B:=B) (h:=h) k (by omega)
   simp only [zb,hx]
   by_cases e:x.trunks=7
   ·rw [if_pos e];exact ih
   ·rw [if_neg e]
    split
    ·exact .inr ⟨k,x,rfl,hx,e⟩
    ·exact ih
end Go.Proofs.Tryz
end
namespace Go.Proofs.Tryz
open Go Go.Load Go.RowKit
def yl (w:World) (v:Value) (L:List Int):Prop:=∃a c,v=.slice a L.length c∧(1≤L.length→∃b,a=some ⟨b,0,none⟩∧∀i x,L[i]? = some x→w.cell? ⟨b,i,none⟩=some (.int .i64 x))
theorem yl.keep {w w1:World} {v:Value} {L:List Int} (h:yl w v L) (hB:Below w.heap.size w w1):yl w1 v L:=by
 obtain ⟨a,c,e,f⟩:=h
 exact ⟨a,c,e,fun hl=>let ⟨b,e1,e2⟩:=f hl;⟨b,e1,fun i x hx=>qb _ hB (e2 i x hx)⟩⟩
def qca:List Int→List Int→Bool
 | [],[]=>false
 | [],_ :: _=>true
 | _ :: _,[]=>false
 | a :: A,b :: B=>if a≠b then decide (a < b) else qca A B
theorem JY:∀A B:List Int,(!qca A B && !qca B A)=decide (A=B)
 | [],[]=>rfl
 | [],_ :: _=>rfl
 | _ :: _,[]=>rfl
 | a :: A,b :: B=>by
   simp only [qca]
   by_cases e:a=b
   ·subst e
    simp only [ne_eq,not_true_eq_false,if_false,JY A B]
    simp
   ·have e':b≠a:=Ne.symm e
    simp only [ne_eq,e,e',not_false_eq_true,if_true]
    have h1:(a :: A=b :: B)↔False:=by simp [e]
    rw [decide_eq_false (by simp [e]:¬ (a :: A=b :: B))]
    rcases Int.lt_or_gt_of_ne e with h | h
    ·rw [decide_eq_true h];rfl
    ·rw [decide_eq_true (show b < a from h)];simp
theorem qew {A B:List Int} {k:Nat} {a b:Int} (ha:A[k]? = some a) (hb:B[k]? = some b):qca (A.drop k) (B.drop k)=if a≠b then decide (a < b) else qca (A.drop (k+1)) (B.drop (k+1)):=by
 obtain ⟨h1,rfl⟩:=List.getElem?_eq_some_iff.1 ha
 obtain ⟨h2,rfl⟩:=List.getElem?_eq_some_iff.1 hb
 rw [List.drop_eq_getElem_cons h1,List.drop_eq_getElem_cons h2]
 rfl
theorem lexN_end {A B:List Int} {k:Nat} (h:A.length≤k∨B.length≤k) (hk1:k≤A.length) (hk2:k≤B.length):qca (A.drop k) (B.drop k)=decide (A.length < B.length):=by
 by_cases h1:A.length≤k
 ·rw [List.drop_eq_nil_of_le h1]
  by_cases h2:B.length≤k
  ·rw [List.drop_eq_nil_of_le h2,decide_eq_false (by omega)];rfl
  ·rw [List.drop_eq_getElem_cons (show k < B.length by omega),decide_eq_true (by omega)];rfl
 ·rw [List.drop_eq_getElem_cons (show k < A.length by omega),List.drop_eq_nil_of_le (show B.length≤k by omega),decide_eq_false (by omega)];rfl
set_option maxHeartbeats 2000000 in
set_option maxRecDepth 100000 in
theorem Xj (va vb:Value) (A B:List Int) (w:World) (hA:yl w va A) (hB:yl w vb B) (h1:A.length≤100) (h2:B.length≤100):Calls qf 58 #[va,vb] w fun e w'=>e=.returned (.bool (qca A B))∧Below w.heap.size w w':=by
 obtain ⟨aa,ca,rfl,ha⟩:=hA
 obtain ⟨ab,cb,rfl,hb⟩:=hB
 have HA:=Lib.hid ha
 have HB:=Lib.hid hb
 have HD:=Lib.hid fun (k:Nat) (a b:Int) (ha:A[k]? = some a) (hb:B[k]? = some b)=>qew ha hb
 have HE:=Lib.hid fun (k:Nat) (h:A.length≤k∨B.length≤k) (hk1:k≤A.length) (hk2:k≤B.length)=>lexN_end h hk1 hk2
 have H0:Hid (qca A B=qca (A.drop 0) (B.drop 0)):=Lib.hid rfl
 clear ha hb
 go_enter s58,ntmps58
 go_wp2
 go_loopw [5] (fun i wr=>∃k:Nat,i=.int .i64 k∧k≤A.length∧k≤B.length∧Below w.heap.size w wr∧Hid (qca A B=qca (A.drop k) (B.drop k))) (fun i _=>A.length - (intOf i).toNat)
 case atStart=>exact ⟨0,rfl,by omega,by omega,.refl _ _,H0⟩
 case round =>
  obtain ⟨k,rfl,hk1,hk2,hBr,HL⟩:=hrel
  have hk0:(0:Int)≤(k:Int):=Int.natCast_nonneg k
  by_cases hlt:k < A.length∧k < B.length
  ·obtain ⟨l1,l2⟩:=hlt
   obtain ⟨a,ha⟩:∃a,A[k]? = some a:=⟨A[k],by simp [l1]⟩
   obtain ⟨b,hb⟩:∃b,B[k]? = some b:=⟨B[k],by simp [l2]⟩
   obtain ⟨ba,rfl,ra⟩:=HA.out (by omega)
   obtain ⟨bb,rfl,rb⟩:=HB.out (by omega)
   have c0:=qb _ hBr (ra k a ha)
   have c1:=qb _ hBr (rb k b hb)
   have hd:=Lib.hid (HD.out k a b ha hb)
   have i1:(k:Int) < (A.length:Int):=by omega
   have i2:(k:Int) < (B.length:Int):=by omega
   clear ra rb ha hb
   by_cases e:a=b
   ·subst e
    go_wp2
    go_quiet (fail)
    go_wp2
    go_roundw
    case rel=>exact ⟨k+1,rfl,by omega,by omega,below_drewN hBr _,Lib.hid (HL.out.trans (by rw [hd.out,if_neg (by simp)]))⟩
    case measure=>simp [intOf];omega
   ·have hab:(a == b)=false:=by simp [e]
    have hab':(a != b)=true:=by simp [e]
    have hL:Hid (qca A B=decide (a < b)):=Lib.hid (HL.out.trans (by rw [hd.out,if_pos e]))
    clear e
    go_wp2
    go_quiet (fail)
    go_wp2
    go_quiet (fail)
    go_wp2
    go_ret
    exact ⟨by rw [hL.out];rfl,below_drewN (below_drewN hBr _) _⟩
  ·have hE:=Lib.hid (HL.out.trans (HE.out k (by omega) hk1 hk2))
   by_cases l1:k < A.length
   ·have i1:(k:Int) < (A.length:Int):=by omega
    have i2:¬ (k:Int) < (B.length:Int):=by omega
    go_wp2
    go_ret
    refine ⟨?_,hBr⟩
    rw [hE.out];simp
   ·have i1:¬ (k:Int) < (A.length:Int):=by omega
    go_wp2
    go_ret
    refine ⟨?_,hBr⟩
    rw [hE.out];simp
set_option maxHeartbeats 1000000 in
theorem jB (va vb:Value) (A B:List Int) (w:World) (hA:yl w va A) (hB:yl w vb B) (h1:A.length≤100) (h2:B.length≤100):Calls qf 14 #[va,vb] w fun e w'=>e=.returned (.bool (decide (A=B)))∧Below w.heap.size w w':=by
 have hl1:=fun W (h:Below w.heap.size w W)=>Xj va vb A B W (hA.keep h) (hB.keep h) h1 h2
 have hl2:=fun W (h:Below w.heap.size w W)=>Xj vb va B A W (hB.keep h) (hA.keep h) h2 h1
 have hb:=Lib.hid (JY A B)
 obtain ⟨aa,ca,rfl,_⟩:=hA
 obtain ⟨ab,cb,rfl,_⟩:=hB
 cases h3:qca A B with
 | true =>
   simp only [h3] at hl1 hb
   go_enter s14,ntmps14
   go_wp2_with (go_at_call 58;refine (hl1 _ (by go_grown)).mono ?_;rintro e w1 ⟨rfl,hB1⟩)
   go_ret
   exact ⟨by rw [← hb.out];rfl,hB1⟩
 | false =>
   simp only [h3] at hl1 hb
   go_enter s14,ntmps14
   go_wp2_with (first | (go_at_call 58;(with_reducible refine (hl1 _ (.refl _ _)).mono ?_);rintro e w1 ⟨rfl,hB1⟩) | (go_at_call 58;(with_reducible refine (hl2 _ (by assumption)).mono ?_);rintro e w2 ⟨rfl,hB2⟩))
   go_ret
   exact ⟨by rw [← hb.out];rfl,bcl hB1 hB2⟩
theorem Je (va vb:Value) (A B:List Int) (w:World) (hA:yl w va A) (hB:yl w vb B) (h1:A.length≤100) (h2:B.length≤100):Calls qf 40 #[va,vb] w fun e w'=>e=.returned (.bool (decide (A=B)))∧Below w.heap.size w w':=by
 have hs:=jB va vb A B w hA hB h1 h2
 obtain ⟨aa,ca,rfl,_⟩:=hA
 obtain ⟨ab,cb,rfl,_⟩:=hB
 go_enter s40,ntmps40
 go_wp2_with (go_at_call 14;refine hs.mono ?_;rintro e w1 ⟨rfl,hB1⟩)
 go_ret
 exact ⟨rfl,hB1⟩
theorem zP {base:Nat} {W:World} {v:Value} {L:List Int} (h:SliceOf base W v L):yl W v L:=by
 have hform:∃a c,v=.slice a L.length c:=by
  obtain ⟨_,⟨h1,h2⟩ | ⟨g,cap,cur,rfl,_⟩⟩:=h
  ·exact ⟨none,0,by rw [h1];simp_all⟩
  ·exact ⟨_,_,rfl⟩
 obtain ⟨a,c,rfl⟩:=hform
 refine ⟨a,c,rfl,fun hl=>?_⟩
 cases a with
 | none =>
   obtain ⟨_,⟨h1,h2⟩ | ⟨g,cap,cur,e,_⟩⟩:=h
   ·exact absurd h2 (by omega)
   ·cases e
 | some ad =>
   obtain ⟨_,⟨h1,h2⟩ | ⟨g,cap,cur,e,hb,hg,hn,_,hs,ht⟩⟩:=h
   ·cases h1
   ·obtain rfl:ad=⟨g,0,none⟩:=by injection e with e1;exact Option.some.inj e1
    refine ⟨g,rfl,fun i x hx=>?_⟩
    have hx':(L.map (Value.int .i64))[i]? = some (.int .i64 x):=by rw [List.getElem?_map,hx];rfl
    rw [← ht,List.getElem?_take] at hx'
    split at hx'
    ·have hu:cur[i]? = some (.int .i64 x):=by simpa using hx'
     unfold World.cell?;rw [hg];simp [hu]
    ·cases hx'
structure BestP (B:Bk) (h k:Nat) (r:Int×(Int×Int)):Prop where
 none:r.1=-1→r.2=(0,1)∧∀j g,j < k→B.gs[j]? = some g→g.trunks=7
 some:r.1≠-1→∃i g,i < k∧r.1=(i:Int)∧B.gs[i]? = some g∧g.trunks≠7∧r.2=zV g h ∧
  ∀j g',j < k→B.gs[j]? = some g'→g'.trunks≠7→above (zV g' h) r.2=false∧(j < i→above r.2 (zV g' h)=true)
def xq (g:Grp) (j k:Nat):Int×Int:=if j < k then (match g.traffic[j]? with | some x=>qJ (low x.1 x.2) g.trunks.toNat | none=>(0,0)) else (0,0)
theorem qdj (w:World):(isAgg 119).run qf w=.ok true w:=(zB _ _).trans (Tryz.isAgg119 w)
theorem qbu (w:World):(Go.sizeOf 119).run qf w=.ok 6 w:=(yh _ _).trans (Tryz.sizeOf119 w)
theorem qaV {g:Grp} {j k:Nat} (h:j≠k):xq g j (k+1)=xq g j k:=by
 unfold xq
 by_cases a:j < k
 ·rw [if_pos a,if_pos (by omega)]
 ·rw [if_neg a,if_neg (by omega)]
theorem qcK {g:Grp} {k:Nat} {x:Int×Int} (h:g.traffic[k]? = some x):xq g k (k+1)=qJ (low x.1 x.2) g.trunks.toNat:=by
 unfold xq;rw [if_pos (by omega),h]
theorem qek {g:Grp} {j:Nat} (h:g.traffic.length≤3):xq g j 3=xq g j g.traffic.length:=by
 unfold xq
 by_cases a:j < g.traffic.length
 ·rw [if_pos a,if_pos (by omega)]
 ·rw [if_neg a,List.getElem?_eq_none (by omega)];split <;> rfl
def hv (f:Nat→Int×Int):Value:=.agg #[.int .i64 (f 0).1,.int .i64 (f 0).2,.int .i64 (f 1).1,.int .i64 (f 1).2,.int .i64 (f 2).1,.int .i64 (f 2).2]
def ArrAt (W:World) (ab:Nat) (f:Nat→Int×Int):Prop:=∀j,j < 3→W.cell? ⟨ab,j * 2,none⟩=some (.int .i64 (f j).1)∧W.cell? ⟨ab,j * 2+1,none⟩=some (.int .i64 (f j).2)∧W.frozen? ⟨ab,j * 2,none⟩=false∧W.frozen? ⟨ab,j * 2+1,none⟩=false
structure But2 (W0:World) (ab k:Nat) (W:World):Prop where
 size:W0.heap.size≤W.heap.size
 cell:∀p v,W0.cell? p=some v→p≠⟨ab,k * 2,none⟩→p≠⟨ab,k * 2+1,none⟩→W.cell? p=some v
 fz:∀p v,W0.cell? p=some v→W0.frozen? p=false→W.frozen? p=false
 there:∀p v,W0.cell? p=some v→(W.cell? p).isSome=true
theorem But2.refl (W0:World) (ab k:Nat):But2 W0 ab k W0:=⟨Nat.le_refl _,fun _ _ h _ _=>h,fun _ _ _ h=>h,fun _ _ h=>qA h⟩
theorem But2.call {W0 W w1:World} {ab k:Nat} (h:But2 W0 ab k W) (hB:Below W.heap.size W w1):But2 W0 ab k w1 :=
 ⟨Nat.le_trans h.size hB.size,fun p v a b c=>qb _ hB (h.cell p v a b c),fun p v a b=>by
   obtain ⟨u,hu⟩:=Option.isSome_iff_exists.1 (h.there p v a)
   exact qg _ hB hu (h.fz p v a b),fun p v a=>by
   obtain ⟨u,hu⟩:=Option.isSome_iff_exists.1 (h.there p v a)
   exact qA (qb _ hB hu)⟩
theorem But2.put {W0 W:World} {ab k:Nat} (u v:Value) (h:But2 W0 ab k W):But2 W0 ab k ((W.setCell ⟨ab,k * 2,none⟩ u).setCell ⟨ab,k * 2+1,none⟩ v) :=
 ⟨by simpa using h.size,fun p x a b c=>qd (Ne.symm c) (qd (Ne.symm b) (h.cell p x a b c)),fun p x a b=>by simpa using h.fz p x a b,fun p x a=>qy (qy (h.there p x a))⟩
abbrev QF (w W0:World) (hb xb ab T:Nat) (x:Int×Int) (k:Nat) (W:World):Prop :=
 W.cell? ⟨xb,0,none⟩=some (.int .i64 x.1)∧W.cell? ⟨xb,1,none⟩=some (.int .i64 x.2)∧W.cell? ⟨hb,1,none⟩=some (.int .i64 T)∧W.cell? ⟨ab,k * 2,none⟩=some (atD W ⟨ab,k * 2,none⟩)∧W.cell? ⟨ab,k * 2+1,none⟩=some (atD W ⟨ab,k * 2+1,none⟩) ∧
  W.frozen? ⟨ab,k * 2,none⟩=false∧W.frozen? ⟨ab,k * 2+1,none⟩=false∧Below w.heap.size w W∧But2 W0 ab k W
theorem QF.call {w W0 W w1:World} {hb xb ab T:Nat} {x:Int×Int} {k:Nat} (h:QF w W0 hb xb ab T x k W) (hB:Below W.heap.size W w1):QF w W0 hb xb ab T x k w1:=by
 obtain ⟨a,b,c,d,e,f,g,i,j⟩:=h
 exact ⟨qb _ hB a,qb _ hB b,qb _ hB c,qO (qA (qb _ hB d)),qO (qA (qb _ hB e)),qg _ hB d f,qg _ hB e g,bcl i hB,j.call hB⟩
theorem QF.put {w W0 W:World} {hb xb ab T:Nat} {x:Int×Int} {k:Nat} (u v:Value) (h:QF w W0 hb xb ab T x k W) (h1:ab≠xb) (h2:ab≠hb) (h3:w.heap.size≤ab):QF w W0 hb xb ab T x k ((W.setCell ⟨ab,k * 2,none⟩ u).setCell ⟨ab,k * 2+1,none⟩ v):=by
 obtain ⟨a,b,c,d,e,f,g,i,j⟩:=h
 have n1:∀p q,(⟨ab,p,none⟩:Addr)≠⟨xb,q,none⟩:=fun p q h=>h1 (congrArg Addr.block h)
 have n2:∀p q,(⟨ab,p,none⟩:Addr)≠⟨hb,q,none⟩:=fun p q h=>h2 (congrArg Addr.block h)
 exact ⟨qd (n1 _ _) (qd (n1 _ _) a),qd (n1 _ _) (qd (n1 _ _) b),qd (n2 _ _) (qd (n2 _ _) c),qO (qy (qy (qA d))),qO (qy (qy (qA e))),by simpa using f,by simpa using g,(i.setCell h3 _).setCell h3 _,j.put u v⟩
set_option maxHeartbeats 4000000 in
set_option maxRecDepth 100000 in
theorem qel (B:Bk) (i:Nat) (g:Grp) (hg:B.gs[i]? = some g) (w:World) (h:BookAt w B) (hG:GoodGrp B.hours g) (hh:B.hours≤3) :
 Calls qf 83 #[bv B,.int .i64 i] w fun e w'=>e=.returned (hv fun j=>xq g j 3)∧Below w.heap.size w w':=by
 obtain ⟨hi,rfl⟩:=List.getElem?_eq_some_iff.1 hg
 obtain ⟨b,o,hga,hc⟩:=h.row (by omega)
 obtain ⟨c0,c1,c2⟩:=hc i _ hg
 have hlen:=hG.len
 generalize hgg:B.gs[i]=g at *
 have hm:g∈B.gs:=List.mem_of_getElem? hg
 have HF:=Lib.hid (h.traf g hm)
 have HT:=Lib.hid hG.traf
 obtain ⟨T,hT⟩:=Int.eq_ofNat_of_zero_le hG.tr0
 have hT7:T≤7:=by have:=hG.tr7;omega
 rw [hT] at c1
 have HTT:=Lib.hid hT
 obtain ⟨lim,gr,hr,gs,ga,gc⟩:=B
 simp only at hga hlen hh hi
 subst hga
 simp only [bv]
 have hlb:b < w.heap.size:=lt_of_cell c0
 have hlb2:b < w.heap.size+1:=by omega
 have hlb3:b < w.heap.size+1+1:=by omega
 have hl3:g.traffic.length≤3:=by omega
 have HO:=Lib.hid fun (j k:Nat) (h:j≠k)=>qaV (g:=g) h
 have HH:=Lib.hid fun (k:Nat) (x:Int×Int) (h:g.traffic[k]? = some x)=>qcK h
 have HE:=Lib.hid fun (j:Nat)=>qek (g:=g) (j:=j) hl3
 have HZ:Hid (∀j,xq g j 0=(0,0)):=Lib.hid fun j=>by simp [xq]
 rw [hT] at HH
 obtain ⟨N,hN⟩:∃N,N=xq g:=⟨_,rfl⟩
 simp only [← hN] at HO HH HE HZ ⊢
 clear hN hT hG hc hg hgg hm h
 go_enter s83,ntmps83
 go_wp2
 obtain ⟨W,hW⟩:∃W,(((w.alloc (Obj.cells #[.int .i64 lim.1,.int .i64 lim.2,.int .i64 gr,.int .i64 hr,.slice (some ⟨b,o,none⟩) gs.length gc] 67)).alloc (Obj.cells #[.int .i64 0,.int .i64 0,.int .i64 0,.int .i64 0,.int .i64 0,.int .i64 0] 119)).alloc (Obj.cells #[.int .i64 0,.int .i64 0,.int .i64 0,.int .i64 0,.int .i64 0,.int .i64 0] 119)).alloc (Obj.cells #[.string g.name,.int .i64 T,.slice g.ta g.traffic.length g.tc] 56)=W:=⟨_,rfl⟩
 have hRes:ArrAt W (w.heap.size+1) (fun _=>(0,0)):=fun j hj=>by
  subst hW
  rcases (show j=0∨j=1∨j=2 by omega) with rfl | rfl | rfl
  ·exact ⟨by go_cell,by go_cell,by go_cell,by go_cell⟩
  ·exact ⟨by go_cell,by go_cell,by go_cell,by go_cell⟩
  ·exact ⟨by go_cell,by go_cell,by go_cell,by go_cell⟩
 have t1:W.cell? ⟨w.heap.size+1+1+1,1,none⟩=some (.int .i64 T):=by subst hW;go_cell
 have hArr:ArrAt W (w.heap.size+1+1) (fun j=>N j 0):=fun j hj=>by
  simp only [HZ.out]
  subst hW
  rcases (show j=0∨j=1∨j=2 by omega) with rfl | rfl | rfl
  ·exact ⟨by go_cell,by go_cell,by go_cell,by go_cell⟩
  ·exact ⟨by go_cell,by go_cell,by go_cell,by go_cell⟩
  ·exact ⟨by go_cell,by go_cell,by go_cell,by go_cell⟩
 have hBW:Below w.heap.size w W:=by subst hW;go_grown
 have hsW:W.heap.size=w.heap.size+4:=by subst hW;simp
 rw [hW]
 clear hW
 go_loopw [18] (fun i wr=>∃k:Nat,i=.int .i64 k∧k≤g.traffic.length∧Below w.heap.size w wr∧w.heap.size+4≤wr.heap.size∧wr.cell? ⟨w.heap.size+1+1+1,1,none⟩=some (.int .i64 T)∧Hid (ArrAt wr (w.heap.size+1+1) (fun j=>N j k))∧Hid (ArrAt wr (w.heap.size+1) (fun _=>(0,0)))) (fun i _=>g.traffic.length - (intOf i).toNat)
 case atStart=>exact ⟨0,rfl,by omega,hBW,by omega,t1,Lib.hid hArr,Lib.hid hRes⟩
 case round =>
  clear t1 hArr hRes hBW hsW
  obtain ⟨k,rfl,hk,hBr,hsz,t1,HArr,HRes⟩:=hrel
  have s1:w.heap.size+1 < wr.heap.size:=by omega
  have s2:w.heap.size+1+1 < wr.heap.size:=by omega
  have s3:w.heap.size+1+1+1 < wr.heap.size:=by omega
  by_cases hlt:k < g.traffic.length
  ·obtain ⟨x,hx⟩:∃x,g.traffic[k]? = some x:=⟨g.traffic[k],by simp [hlt]⟩
   have hx2:=HT.out x (List.mem_of_getElem? hx)
   obtain ⟨tb,t0,hta,hpa⟩:=HF.out (by omega)
   have hta':=hta
   obtain ⟨e0,e1⟩:=hpa k x hx
   have e0:=qb _ hBr e0
   have e1:=qb _ hBr e1
   obtain ⟨a0,a1,a2,a3⟩:=HArr.out k (by omega)
   obtain ⟨k1,k2,k3,k4⟩:=jP hx2.1.1 hx2.1.2 hx2.2.1 hx2.2.2
   have hof:=fun W=>YF x W hx2.1.1 (by have:=hx2.2.1;omega) (by have:=hx2.1.2;omega) (by have:=hx2.2.2;omega)
   have hlo:=fun W=>Qd T (low x.1 x.2) k1 k2 k3 k4 hT7 W
   have hth:=HH.out k x hx
   rw [Int.toNat_natCast] at hth
   generalize qJ (low x.1 x.2) T=r at *
   generalize low x.1 x.2=y at *
   have HN:=Lib.hid hth
   have hkk:(k:Int) < 3:=by omega
   have hk0:(0:Int)≤(k:Int):=Int.natCast_nonneg k
   simp only [fv] at hof hlo
   rw [hta]
   clear hth hx hx2 hpa k1 k2 k3 k4 hta
   have hX:QF w (wr.alloc (.cells #[.int .i64 x.1,.int .i64 x.2] 23)).drew (w.heap.size+1+1+1) wr.heap.size (w.heap.size+1+1) T x k (wr.alloc (.cells #[.int .i64 x.1,.int .i64 x.2] 23)).drew :=
    ⟨by go_cell,by go_cell,qi t1,qO (qA (qi a0)),qO (qA (qi a1)),qo a0 a2,qo a1 a3,(hBr.alloc (by omega) _).drew,.refl _ _ _⟩
   go_wp2
   go_region_held3 (fun w'=>w'.cell? ⟨wr.heap.size,0,none⟩=some (.int .i64 x.1)∧w'.cell? ⟨wr.heap.size,1,none⟩=some (.int .i64 x.2)∧w'.cell? ⟨w.heap.size+1+1+1,1,none⟩=some (.int .i64 T)∧w'.cell? ⟨w.heap.size+1+1,k * 2,none⟩=some (atD w' ⟨w.heap.size+1+1,k * 2,none⟩)∧w'.cell? ⟨w.heap.size+1+1,k * 2+1,none⟩=some (atD w' ⟨w.heap.size+1+1,k * 2+1,none⟩)∧w'.frozen? ⟨w.heap.size+1+1,k * 2,none⟩=false∧w'.frozen? ⟨w.heap.size+1+1,k * 2+1,none⟩=false∧Below w.heap.size w w'∧But2 (wr.alloc (.cells #[.int .i64 x.1,.int .i64 x.2] 23)).drew (w.heap.size+1+1) k w')
    (first | exact hX | ((with_reducible refine QF.call ?_ hB);assumption) | ((with_reducible refine QF.put _ _ ?_ ?_ ?_ ?_);assumption;omega;omega;omega))
    (first | (go_at_call 46;refine (hof _).mono ?_;rintro e w1 ⟨rfl,hB⟩) | (go_at_call 88;refine (hlo _).mono ?_;rintro e w1 ⟨rfl,hB⟩))
   rename_i hH
   obtain ⟨_,_,_,q0,q1,q2,q3,q4,q5⟩:=hH
   go_wp2
   go_roundw
   case rel =>
    have hcells:∀p v,wr.cell? p=some v→p≠⟨w.heap.size+1+1,k * 2,none⟩→p≠⟨w.heap.size+1+1,k * 2+1,none⟩→_:=fun p v hp h1 h2=>q5.cell p v (qi hp) h1 h2
    refine ⟨k+1,rfl,by omega,q4,?_,hcells _ _ t1 (by simp) (by simp),Lib.hid fun j hj=>?_,Lib.hid fun j hj=>?_⟩
    ·have:=q5.size;simp at this ⊢;omega
    ·obtain ⟨b0,b1,b2,b3⟩:=HArr.out j hj
     by_cases e:j=k
     ·subst e
      simp only [HN.out]
      refine ⟨qd (by simp) (ze (qX (qX (qA q0)))),ze (qX (qA q1)),q2,q3⟩
     ·simp only [HO.out j k e]
      exact ⟨hcells _ _ b0 (by simp <;> omega) (by simp <;> omega),hcells _ _ b1 (by simp <;> omega) (by simp <;> omega),q5.fz _ _ (qi b0) (qo b0 b2),q5.fz _ _ (qi b1) (qo b1 b3)⟩
    ·obtain ⟨b0,b1,b2,b3⟩:=HRes.out j hj
     exact ⟨hcells _ _ b0 (by simp) (by simp),hcells _ _ b1 (by simp) (by simp),q5.fz _ _ (qi b0) (qo b0 b2),q5.fz _ _ (qi b1) (qo b1 b3)⟩
   case measure=>simp [intOf];omega
  ·obtain rfl:k=g.traffic.length:=by omega
   have e0:=(HArr.out 0 (by omega)).1
   have e1:=(HArr.out 0 (by omega)).2.1
   have e2:=(HArr.out 1 (by omega)).1
   have e3:=(HArr.out 1 (by omega)).2.1
   have e4:=(HArr.out 2 (by omega)).1
   have e5:=(HArr.out 2 (by omega)).2.1
   obtain ⟨r0,r1,f0,f1⟩:=HRes.out 0 (by omega)
   obtain ⟨r2,r3,f2,f3⟩:=HRes.out 1 (by omega)
   obtain ⟨r4,r5,f4,f5⟩:=HRes.out 2 (by omega)
   simp only [Nat.zero_mul,Nat.one_mul,Nat.reduceMul,Nat.reduceAdd,Nat.zero_add] at e0 e1 e2 e3 e4 e5 r0 r1 r2 r3 r4 r5 f0 f1 f2 f3 f4 f5
   have HR:Hid (hv (fun j=>N j 3)=.agg #[.int .i64 (N 0 g.traffic.length).1,.int .i64 (N 0 g.traffic.length).2,.int .i64 (N 1 g.traffic.length).1,.int .i64 (N 1 g.traffic.length).2,.int .i64 (N 2 g.traffic.length).1,.int .i64 (N 2 g.traffic.length).2]):=Lib.hid (by simp only [hv,HE.out])
   go_wp2
   exact ret_c6 results83 qdj qbu rfl r0 r1 r2 r3 r4 r5 ⟨by rw [HR.out],Below.set6 hBr (Nat.le_succ _)⟩
end Go.Proofs.Tryz
