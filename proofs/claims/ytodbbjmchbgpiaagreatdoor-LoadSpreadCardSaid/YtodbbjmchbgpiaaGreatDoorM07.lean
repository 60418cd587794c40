/-
  Lemmas about the program and the machine (C35 to C36), upon which the last text of this claim rests; no condition.
-/
import Derived.IntWalk
import Derived.Test.YtodbbjmchbgpiaaGreatDoorM06
set_option linter.unusedSimpArgs false
set_option linter.unusedVariables false
namespace Go.Proofs.Tryz
open Go Go.Load Go.RowKit
theorem qdb {P:Program} {fn:Func} {R:Ending→World→Prop} {ts:Array Value} {p q r s:Tmp} {w:World} {a b c d:Value} (h:fn.results=#[.tmp p,.tmp q,.tmp r,.tmp s]) (hp:ts.getD p undef=a) (hq:ts.getD q undef=b) (hr:ts.getD r undef=c) (hs:ts.getD s undef=d)
 (hR:R (.returned (.tuple #[a,b,c,d])) w):bodyPost P fn R .ret ⟨ts,[]⟩ w:=by
 refine bodyPost_ret (v:=.tuple #[a,b,c,d]) ?_ rfl hR
 unfold results
 rw [h]
 simp only [List.mapM_toArray,List.mapM_cons,List.mapM_nil,hp,hq,hr,hs,bind_assoc,pure_bind,map_eq_pure_bind,Sem.run_pure]
 rfl
def Qp (B:Bk) (g:Grp):Bool:=(g.traffic.any fun x => !decide (yx x)) || !QR B g g.trunks.toNat
def yg (B:Bk):Nat→List Grp→Option Nat
 | _,[]=>none
 | i,g :: l=>if Qp B g then some i else yg B (i+1) l
def xw (B:Bk):Nat→Nat→Option (Nat×Nat)
 | 0,_=>none
 | f+1,y=>match yg (zf B y) 0 (zf B y).gs with
   | some i=>some (y,i)
   | none=>xw B f (y+1)
def yearR:Option (Nat×Nat)→Value
 | some p=>.tuple #[.int .i64 p.1,.int .i64 p.2,.bool true,.int .i64 0]
 | none=>.tuple #[.int .i64 0,.int .i64 0,.bool false,.int .i64 0]
def yearV (B:Bk):Value:=if checkN B=0 then yearR (xw B 7 0) else .tuple #[.int .i64 0,.int .i64 0,.bool false,.int .i64 (checkN B)]
theorem qam {B:Bk} {l:List Grp} {k:Nat} {g:Grp} (h:l[k]? = some g):yg B k (l.drop k)=if Qp B g then some k else yg B (k+1) (l.drop (k+1)):=by
 obtain ⟨hk,rfl⟩:=List.getElem?_eq_some_iff.1 h
 rw [List.drop_eq_getElem_cons hk]
 rfl
theorem qab (B B':Bk) (g:Grp) (h:B'.lim=B.lim):Qp B' (blank g)=Qp B g:=by
 unfold Qp QR
 rw [h];rfl
theorem jD (B B':Bk) (h:B'.lim=B.lim):∀(l:List Grp) (i:Nat),yg B' i (l.map blank)=yg B i l
 | [],_=>rfl
 | g :: l,i=>by simp only [List.map_cons,yg,qab B B' g h,jD B B' h l]
theorem qan {B B':Bk} {l l':List Grp} (h:B'.lim=B.lim) (hs:qZ l l'):yg B' 0 l'=yg B 0 l:=by
 rw [← jD B' { B' with gs:=[] } rfl l',← jD B { B' with gs:=[] } h l,QB hs]
set_option maxHeartbeats 2000000 in
set_option maxRecDepth 100000 in
theorem Year_bad (B:Bk) (w:World) (h:BookAt w B) (hG:Globs w) (hc:checkN B≠0):Calls qg 30 #[bv B] w fun e w'=>e=.returned (.tuple #[.int .i64 0,.int .i64 0,.bool false,.int .i64 (checkN B)])∧Below w.heap.size w w':=by
 have hop:=fun W (hB:Below w.heap.size w W)=>yf B true W (h.keep hB) (hG.keep hB)
 simp only [Qg,if_neg hc] at hop
 generalize checkN B=r at *
 have hrb:(r != 0)=true:=by simp [hc]
 obtain ⟨lim,gr,hr,gs,ga,gc⟩:=B
 simp only [bv,bz] at *
 clear h hG hc
 go_enter s30,ntmps30
 go_wp2_with (go_at_call 50;(with_reducible refine (hop _ (by go_grown)).mono ?_);rintro e w1 ⟨rfl,hB1⟩;(first | (replace hB:=bcl (by with_reducible assumption) hB1) | (replace hB:=bcl (by go_grown) hB1) | (have hB:=hB1));(try clear hc hg hz);obtain ⟨hc,hg⟩:=qC hB;have hz:=hB.size;clear hB1;(try simp at hz);(try have hlt0:w.heap.size < w1.heap.size:=by omega))
 have hBw:=bcl (w:=w) (by go_grown) hB
 exact qdb results30 rfl rfl rfl rfl ⟨rfl,hBw.alloc hBw.size _⟩
def YearAt (B:Bk) (y:Nat) (W:World) (l:List Grp) (ga:Option Addr) (gc:Nat):Prop:=qZ (zf B y).gs l∧BookAt W { B with gs:=l,ga:=ga,gc:=gc }
set_option maxHeartbeats 4000000 in
set_option maxRecDepth 100000 in
theorem Year_ok (B:Bk) (w:World) (h:BookAt w B) (hG:Globs w) (hc:checkN B=0):Calls qg 30 #[bv B] w fun e w'=>e=.returned (yearR (xw B 7 0))∧Below w.heap.size w w':=by
 have hop:=fun W (hB:Below w.heap.size w W)=>yf B true W (h.keep hB) (hG.keep hB)
 simp only [Qg,if_pos hc] at hop
 have hV:=qy hc
 have HS:=Lib.hid h.small
 have HV:=Lib.hid hV
 have H:=Lib.hid h
 have hfl:∀g∈B.gs,1≤g.traffic.length:=fun g hg=>by have:=(hV.grp g hg).len;have:=hV.num.2.2.1;omega
 have HF:=Lib.hid hfl
 obtain ⟨R,hR⟩:∃R,xw B 7 0=R:=⟨_,rfl⟩
 rw [hR]
 have HR:=Lib.hid hR
 have hsm:=h.small
 clear hfl hV hR
 obtain ⟨lim,gr,hr,gs,ga,gc⟩:=B
 simp only [bv,bz] at *
 clear h hG hc
 go_enter s30,ntmps30
 go_upto_region 4 with ((go_at_call 50;(with_reducible refine (hop _ (by go_grown)).mono ?_);rintro e w1 ⟨rfl,hB1⟩;(first | (replace hB:=bcl (by with_reducible assumption) hB1) | (replace hB:=bcl (by go_grown) hB1) | (have hB:=hB1));(try clear hc hg hz);obtain ⟨hc,hg⟩:=qC hB;have hz:=hB.size;clear hB1;(try simp at hz);(try have hlt0:w.heap.size < w1.heap.size:=by omega)))
 have hF6:=Five.new w1 (.int .i64 lim.1) (.int .i64 lim.2) (.int .i64 gr) (.int .i64 hr) (.slice ga gs.length gc) 75
 have hBw:=(bcl (w:=w) (by go_grown) hB).alloc (w:=w1) (by omega) (.cells #[.int .i64 lim.1,.int .i64 lim.2,.int .i64 gr,.int .i64 hr,.slice ga gs.length gc] 75)
 obtain ⟨W,hW⟩:∃W,w1.alloc (.cells #[.int .i64 lim.1,.int .i64 lim.2,.int .i64 gr,.int .i64 hr,.slice ga gs.length gc] 75)=W:=⟨_,rfl⟩
 obtain ⟨q,hq⟩:∃q,w1.heap.size=q:=⟨_,rfl⟩
 have hwq:w.heap.size < q:=by omega
 rw [hq] at hF6
 rw [hW] at hF6 hBw ⊢
 rw [hq]
 clear hW hc hg hB hz hq
 go_wp2
 have hY:YearAt ⟨lim,gr,hr,gs,ga,gc⟩ 0 W gs ga gc:=⟨.refl _,H.out.keep hBw⟩
 go_loopw [18] (fun i wr=>∃y:Nat,i=.int .i64 y∧y≤7∧Below w.heap.size w wr∧Hid (xw ⟨lim,gr,hr,gs,ga,gc⟩ (7 - y) y=R)∧∃l a c,Hid (YearAt ⟨lim,gr,hr,gs,ga,gc⟩ y wr l a c)∧Hid (Five wr q (.int .i64 lim.1) (.int .i64 lim.2) (.int .i64 gr) (.int .i64 hr) (.slice a l.length c))) (fun i _=>7 - (intOf i).toNat)
 case atStart=>exact ⟨0,rfl,by omega,hBw,HR,gs,ga,gc,Lib.hid hY,Lib.hid hF6⟩
 case round =>
  clear hF6 hBw hY hop
  obtain ⟨y,rfl,hy,hBr,HY,l,a,c,hA,hF⟩:=hrel
  obtain ⟨⟨e0,e1,e2,e3,e4⟩,⟨k0,k1,k2,k3,k4⟩⟩:=id hF.out
  have hll:l.length=gs.length:=by rw [hA.out.1.1,Qs]
  obtain ⟨b,o,hla,hcs⟩:=hA.out.2.row (by rw [hll];exact HV.out.len1)
  simp only at hla
  subst hla
  have hl20:l.length≤20:=by rw [hll];exact HS.out.1
  have HLL:=Lib.hid hll
  clear hll
  by_cases hlt:y < 7
  ·have hy1:(y:Int) < 7:=by omega
   have hy0:(0:Int)≤(y:Int):=Int.natCast_nonneg y
   have HYs:Hid (xw ⟨lim,gr,hr,gs,ga,gc⟩ (7 - y) y=match yg ⟨lim,gr,hr,l,some ⟨b,o,none⟩,c⟩ 0 l with | some i=>some (y,i) | none=>xw ⟨lim,gr,hr,gs,ga,gc⟩ (7 - (y+1)) (y+1)):=Lib.hid (by
    rw [show 7 - y=(7 - (y+1))+1 by omega]
    show (match yg (zf ⟨lim,gr,hr,gs,ga,gc⟩ y) 0 (zf ⟨lim,gr,hr,gs,ga,gc⟩ y).gs with | some i=>some (y,i) | none=>xw ⟨lim,gr,hr,gs,ga,gc⟩ (7 - (y+1)) (y+1))=_
    rw [← qan (B':=⟨lim,gr,hr,l,some ⟨b,o,none⟩,c⟩) (by rw [(jm _ y).1]) hA.out.1])
   have HC:=Lib.hid hcs
   have hlb:b < wr.heap.size:=lt_of_cell (hcs 0 _ (List.getElem?_eq_getElem (show 0 < l.length by rw [HLL.out];exact HV.out.len1))).1
   clear hcs
   go_wp2
   obtain ⟨V,hV⟩:∃V,V=wr:=⟨_,rfl⟩
   subst hV
   go_loopw [25] (fun i w3=>∃j:Nat,i=.int .i64 j∧j≤l.length∧Below V.heap.size V w3∧Hid (yg ⟨lim,gr,hr,l,some ⟨b,o,none⟩,c⟩ 0 l=yg ⟨lim,gr,hr,l,some ⟨b,o,none⟩,c⟩ j (l.drop j))) (fun i _=>l.length - (intOf i).toNat)
   case atStart=>exact ⟨0,rfl,by omega,.refl _ _,Lib.hid rfl⟩
   case round =>
    obtain ⟨j,rfl,hj,hB3,HJ⟩:=hrel
    have hBr3:=bcl hBr hB3
    have e0:=qb _ hB3 e0
    have e1:=qb _ hB3 e1
    have e2:=qb _ hB3 e2
    have e3:=qb _ hB3 e3
    have e4:=qb _ hB3 e4
    have k0:=qd _ hB3 (hF.out.c.1) k0
    have k1:=qd _ hB3 (hF.out.c.2.1) k1
    have k2:=qd _ hB3 (hF.out.c.2.2.1) k2
    have k3:=qd _ hB3 (hF.out.c.2.2.2.1) k3
    have k4:=qd _ hB3 (hF.out.c.2.2.2.2) k4
    have hq3:q < wr.heap.size:=lt_of_cell e0
    have hVs:=hB3.size
    by_cases hjl:j < l.length
    ·obtain ⟨x,hx⟩:∃x,l[j]? = some x:=⟨l[j],by simp [hjl]⟩
     obtain ⟨c0,c1,c2⟩:=HC.out j x hx
     have c0:=qb _ hB3 c0
     have c1:=qb _ hB3 c1
     have c2:=qb _ hB3 c2
     have hm:x∈l:=List.mem_of_getElem? hx
     have hsx:=(hA.out.2.small.2 x hm).1
     have htf:=fun (W:World) (hB:Below V.heap.size V W)=>yU 78 #[] (fun args w=>c78 args w) (fun x => !decide (yx x)) x.traffic x.ta x.tc (by omega) W ((hA.out.2.traf x hm).keep hB) (fun x _ W' _=>qew x W')
     have hT7:0≤x.trunks∧x.trunks≤7:=by
      have hi:=(List.getElem?_eq_some_iff.1 hx).1
      obtain ⟨z,hz⟩:∃z,(zf ⟨lim,gr,hr,gs,ga,gc⟩ y).gs[j]? = some z:=⟨(zf ⟨lim,gr,hr,gs,ga,gc⟩ y).gs[j]'(by rw [← hA.out.1.1];exact hi),by simp⟩
      obtain ⟨u,hu,_,hu2,_⟩:=jl _ y j z hz
      have hgu:=HV.out.grp u (List.mem_of_getElem? hu)
      rw [(hA.out.1.2 j z x hz hx).2.1,hu2]
      exact ⟨hgu.tr0,hgu.tr7⟩
     obtain ⟨T,hT⟩:=Int.eq_ofNat_of_zero_le hT7.1
     have hT8:T≤7:=by omega
     have hfi:=fun (W:World) (hB:Below V.heap.size V W) (htr:∀z∈x.traffic,yx z)=>JD ⟨lim,gr,hr,l,some ⟨b,o,none⟩,c⟩ j T x hx hT8 W ⟨hA.out.2.keep hB,HV.out.num.1⟩ htr
     have hbd:Hid (yg ⟨lim,gr,hr,l,some ⟨b,o,none⟩,c⟩ j (l.drop j)=if Qp ⟨lim,gr,hr,l,some ⟨b,o,none⟩,c⟩ x then some j else yg ⟨lim,gr,hr,l,some ⟨b,o,none⟩,c⟩ (j+1) (l.drop (j+1))):=Lib.hid (qam hx)
     rw [hT] at c1
     have hYB:Hid (Qp ⟨lim,gr,hr,l,some ⟨b,o,none⟩,c⟩ x=((x.traffic.any fun x => !decide (yx x)) || !QR ⟨lim,gr,hr,l,some ⟨b,o,none⟩,c⟩ x T)):=Lib.hid (by unfold Qp;rw [hT];rfl)
     have hj20:(j:Int) < (l.length:Int):=by omega
     have hj0:(0:Int)≤(j:Int):=Int.natCast_nonneg j
     clear hx hm hT7 hT hT8 hsx
     simp only [bv] at hfi
     by_cases ha:(x.traffic.any fun x => !decide (yx x))=true
     ·rw [ha] at htf
      have HA:=Lib.hid ha
      have htr:True:=trivial
      clear ha hfi
      go_wp2_with (first | (go_at_call 77;(with_reducible refine (htf _ (by go_grown)).mono ?_);rintro e w1 ⟨rfl,hB1⟩;have hBx:=Below.call (B:=V.heap.size) (w:=V) (by go_grown) hB1 (Nat.le_refl _);obtain ⟨hc,hg⟩:=qC hB1;have hs1:=hB1.size;(simp at hs1);have hq4:q < wr.heap.size+1:=(by omega)) | (go_at_call 80;(with_reducible refine (hfi _ (by first | exact hBx | go_grown) htr).mono ?_);rintro e w2 ⟨rfl,hB2⟩;have hBy:=Below.call (B:=V.heap.size) (w:=V) (by first | exact hBx | go_grown) hB2 (Nat.le_refl _)))
      have hRR:R=some (y,j):=by rw [← HY.out,HYs.out,HJ.out,hbd.out,hYB.out,HA.out];rfl
      exact qdb results30 rfl rfl rfl rfl ⟨by rw [hRR];rfl,bcl hBr hBx⟩
     ·have ha:(x.traffic.any fun x => !decide (yx x))=false:=by simpa using ha
      have htr:∀z∈x.traffic,yx z:=fun z hz=>by
       have:=List.any_eq_false.1 ha z hz
       simpa using this
      rw [ha] at htf
      have HA:=Lib.hid ha
      clear ha
      cases hb:QR ⟨lim,gr,hr,l,some ⟨b,o,none⟩,c⟩ x T with
      | false =>
        rw [hb] at hfi
        have HB:=Lib.hid hb
        clear hb
        go_wp2_with (first | (go_at_call 77;(with_reducible refine (htf _ (by go_grown)).mono ?_);rintro e w1 ⟨rfl,hB1⟩;have hBx:=Below.call (B:=V.heap.size) (w:=V) (by go_grown) hB1 (Nat.le_refl _);obtain ⟨hc,hg⟩:=qC hB1;have hs1:=hB1.size;(simp at hs1);have hq4:q < wr.heap.size+1:=(by omega)) | (go_at_call 80;(with_reducible refine (hfi _ (by first | exact hBx | go_grown) htr).mono ?_);rintro e w2 ⟨rfl,hB2⟩;have hBy:=Below.call (B:=V.heap.size) (w:=V) (by first | exact hBx | go_grown) hB2 (Nat.le_refl _)))
        have hRR:R=some (y,j):=by rw [← HY.out,HYs.out,HJ.out,hbd.out,hYB.out,HA.out,HB.out];rfl
        exact qdb results30 rfl rfl rfl rfl ⟨by rw [hRR];rfl,bcl hBr hBy⟩
      | true =>
        rw [hb] at hfi
        have HB:=Lib.hid hb
        clear hb
        go_wp2_with (first | (go_at_call 77;(with_reducible refine (htf _ (by go_grown)).mono ?_);rintro e w1 ⟨rfl,hB1⟩;have hBx:=Below.call (B:=V.heap.size) (w:=V) (by go_grown) hB1 (Nat.le_refl _);obtain ⟨hc,hg⟩:=qC hB1;have hs1:=hB1.size;(simp at hs1);have hq4:q < wr.heap.size+1:=(by omega)) | (go_at_call 80;(with_reducible refine (hfi _ (by first | exact hBx | go_grown) htr).mono ?_);rintro e w2 ⟨rfl,hB2⟩;have hBy:=Below.call (B:=V.heap.size) (w:=V) (by first | exact hBx | go_grown) hB2 (Nat.le_refl _)))
        go_roundw
        case rel=>exact ⟨j+1,rfl,by omega,hBy,Lib.hid (HJ.out.trans (by rw [hbd.out,hYB.out,HA.out,HB.out];rfl))⟩
        case measure=>simp [intOf];omega
    ·obtain rfl:j=l.length:=by omega
     have hgr:=qaD ⟨lim,gr,hr,l,some ⟨b,o,none⟩,c⟩ wr (hA.out.2.keep hB3) (by rw [HLL.out];exact HV.out.len1) (fun x hx=>by
      obtain ⟨i,hi,rfl⟩:=List.getElem_of_mem hx
      obtain ⟨z,hz⟩:∃z,(zf ⟨lim,gr,hr,gs,ga,gc⟩ y).gs[i]? = some z:=⟨(zf ⟨lim,gr,hr,gs,ga,gc⟩ y).gs[i]'(by rw [← hA.out.1.1];exact hi),by simp⟩
      obtain ⟨u,hu,_,_,hu3⟩:=jl _ y i z hz
      have hs:=(hA.out.1.2 i z l[i] hz (by simp)).2.2
      rw [hs,hu3]
      exact HF.out u (List.mem_of_getElem? hu)) HV.out.num.2.1.1 (by have:=HV.out.num.2.1.2;simp only at this ⊢;omega)
     simp only [bv] at hgr
     have HNo:Hid (xw ⟨lim,gr,hr,gs,ga,gc⟩ (7 - (y+1)) (y+1)=R):=Lib.hid (by
      rw [← HY.out,HYs.out,HJ.out,List.drop_length];rfl)
     go_wp2
     go_at_call 75
     refine hgr.mono ?_
     rintro e w4 ⟨⟨g1,gc1,l1,tb1,rfl,hS1,hO1,hc1⟩,hB4⟩
     have hF4:=(hF.out.keep hB3).keep hB4
     have hBx:=bcl hBr3 hB4
     clear e0 e1 e2 e3 e4 k0 k1 k2 k3 k4 hgr hB4
     obtain ⟨⟨e0,e1,e2,e3,e4⟩,⟨k0,k1,k2,k3,k4⟩⟩:=id hF4
     simp only [bv,YR]
     go_wp2
     go_roundw
     case rel =>
      refine ⟨y+1,rfl,by omega,Below.set5 hBx (by omega),HNo,l1,some ⟨g1,0,none⟩,gc1,Lib.hid ⟨?_,?_⟩,Lib.hid (hF4.put _ _ _ _ _)⟩
      ·have h2:=(Xj (r:=gr) hA.out.1).trans hS1
       have e:=(jm ⟨lim,gr,hr,gs,ga,gc⟩ y).2.1
       simp only [zf,YR,e]
       exact h2
      ·refine QP (B:=YR ⟨lim,gr,hr,l,some ⟨b,o,none⟩,c⟩) hS1 (hO1.five' rfl hq3) hc1 ⟨by simpa [YR] using hl20,fun z hz=>?_⟩
       obtain ⟨u,hu,rfl⟩:=List.mem_map.1 hz
       have:=hA.out.2.small.2 u hu
       simpa [Ym] using this
     case measure=>simp [intOf];omega
  ·obtain rfl:y=7:=by omega
   have hRR:R=none:=by rw [← HY.out];rfl
   subst hRR
   go_wp2
   exact qdb results30 rfl rfl rfl rfl ⟨rfl,hBr⟩
theorem Year_any (B:Bk) (w:World) (h:BookAt w B) (hG:Globs w):Calls qg 30 #[bv B] w fun e w'=>e=.returned (yearV B)∧Below w.heap.size w w':=by
 unfold yearV
 by_cases hc:checkN B=0
 ·rw [if_pos hc];exact Year_ok B w h hG hc
 ·rw [if_neg hc];exact Year_bad B w h hG hc
structure UpX (x y:Int×Int):Prop where
 bot:y.2=x.2
 b1:1≤x.2∧x.2≤4
 pos:0≤x.1
 up:x.1≤y.1∨12 < y.1
theorem qbv {B:Bk} (hc:checkN B=0):∀(i:Nat) (g:Grp),B.gs[i]? = some g→zb B.gs B.hours i g=0:=by
 have hV:=qy hc
 unfold checkN at hc
 rw [show zx B=0 from if_pos hV.num,if_pos rfl] at hc
 unfold yC at hc
 rw [if_pos ⟨hV.len1,hV.len4⟩] at hc
 intro i g hg
 have:=xE hc i g hg
 rwa [Nat.zero_add] at this
theorem qbJ {gs:List Grp} {hours:Int} {i:Nat} {g:Grp} (hG:GoodGrp hours g) (hN:((gs.take i).any fun o=>o.name.toList == g.name.toList)=false):zb gs hours i g=0:=by
 unfold zb
 have ha:(g.traffic.any fun x => !decide (yx x))=false:=by
  rw [List.any_eq_false]
  intro x hx
  simp [hG.traf x hx]
 rw [if_neg (by rw [hG.name];decide),if_neg (by rw [hN];decide),if_neg (by rw [yA.2 ⟨hG.tr0,hG.tr7⟩];decide),if_neg (fun h=>h hG.len),if_neg (by rw [ha];decide)]
theorem Zg {f:Nat→Grp→Int}:∀(l:List Grp) (k:Nat),(∀(i:Nat) (g:Grp),l[i]? = some g→f (k+i) g=0)→qP f k l=0
 | [],_,_=>rfl
 | x :: l,k,h=>by
   unfold qP
   rw [if_neg (by have:=h 0 x rfl;rw [Nat.add_zero] at this;simp [this])]
   exact Zg l (k+1) fun i g hg=>by have:=h (i+1) g (by simpa using hg);rwa [show k+(i+1)=k+1+i by omega] at this
theorem check_of {B:Bk} (hn:Jp B) (h1:1≤B.gs.length) (h4:B.gs.length≤4) (h:∀(i:Nat) (g:Grp),B.gs[i]? = some g→zb B.gs B.hours i g=0):checkN B=0:=by
 unfold checkN
 rw [show zx B=0 from if_pos hn,if_pos rfl]
 unfold yC
 rw [if_pos ⟨h1,h4⟩]
 exact Zg _ _ fun i g hg=>by rw [Nat.zero_add];exact h i g hg
def xV (x:Int×Int) (T:Nat):Int×Int:=low ((qN x T).1 * (qN x (T+1)).2 - (qN x (T+1)).1 * (qN x T).2) ((qN x T).2 * (qN x (T+1)).2)
def qgm (a b:Int) (T:Nat):Bool:=let p:=qN (a,b) T;let q:=qN (a,b) (T+1);decide (p.1 * q.2 < 4611686018427387904) && decide (p.2 * q.2 < 4611686018427387904) && decide (q.1 * p.2≤p.1 * q.2)
set_option maxRecDepth 100000 in
theorem qce:(List.range 13).all (fun a=>(List.range 4).all fun b=>(List.range 7).all fun T=>qgm a (b+1) T)=true:=by decide +kernel
theorem qdc {x:Int×Int} (h1:0≤x.1) (h2:x.1≤12) (h3:1≤x.2) (h4:x.2≤4) {T:Nat} (hT:T≤6) :
 (qN x T).1 * (qN x (T+1)).2 < 4611686018427387904∧(qN x T).2 * (qN x (T+1)).2 < 4611686018427387904∧(qN x (T+1)).1 * (qN x T).2≤(qN x T).1 * (qN x (T+1)).2:=by
 obtain ⟨a,b⟩:=x
 simp only at h1 h2 h3 h4
 obtain ⟨n,rfl⟩:=Int.eq_ofNat_of_zero_le h1
 obtain ⟨k,hk⟩:=Int.eq_ofNat_of_zero_le (show 0≤b - 1 by omega)
 obtain rfl:b=(k:Int)+1:=by omega
 have h:=qce
 rw [List.all_eq_true] at h
 have h:=h n (List.mem_range.2 (by omega))
 rw [List.all_eq_true] at h
 have h:=h k (List.mem_range.2 (by omega))
 rw [List.all_eq_true] at h
 have h:=h T (List.mem_range.2 (by omega))
 simp only [qgm,Bool.and_eq_true,decide_eq_true_eq] at h
 exact ⟨h.1.1,h.1.2,h.2⟩
theorem qfu (m:Nat) (T:Nat) (x:Int×Int) (h1:0≤x.1) (h2:x.1≤12) (h3:1≤x.2) (h4:x.2≤4) (hT:T≤7) (w:World) (hL:∃L,qad w m L) :
 Calls qg 131 #[.map (some m),fv x,.int .i64 T] w fun e w'=>e=.returned (fv (qN x T))∧ZW m w w':=by
 obtain ⟨L,hL⟩:=hL
 exact lost_any m L T x h1 h2 h3 h4 hT w hL
def yj (m:Nat) (W:World):Prop:=∃L,qad W m L
abbrev jc (w:World) (m gb xb rb T:Nat) (x:Int×Int) (W:World):Prop :=
 W.cell? ⟨xb,0,none⟩=some (.int .i64 x.1)∧W.cell? ⟨xb,1,none⟩=some (.int .i64 x.2)∧W.cell? ⟨gb,1,none⟩=some (.int .i64 T)∧W.cell? ⟨rb,0,none⟩=some (atD W ⟨rb,0,none⟩)∧W.cell? ⟨rb,1,none⟩=some (atD W ⟨rb,1,none⟩) ∧
  W.frozen? ⟨rb,0,none⟩=false∧W.frozen? ⟨rb,1,none⟩=false∧yj m W∧w.grownBy W (some m)
theorem jc.call {w W w1:World} {m gb xb rb T:Nat} {x:Int×Int} (h:jc w m gb xb rb T x W) (hB:Below W.heap.size W w1):jc w m gb xb rb T x w1:=by
 obtain ⟨a,b,c,d,e,f,g,⟨L,i⟩,j⟩:=h
 exact ⟨qb _ hB a,qb _ hB b,qb _ hB c,qW (qA (qb _ hB d)),qW (qA (qb _ hB e)),qd _ hB d f,qd _ hB e g,⟨L,i.keep hB⟩,zU j (zt hB)⟩
theorem jc.lost {w W w1:World} {m gb xb rb T:Nat} {x:Int×Int} (h:jc w m gb xb rb T x W) (hm:m < gb) (hm2:m < xb) (hm3:m < rb) (hO:ZW m W w1):jc w m gb xb rb T x w1:=by
 obtain ⟨a,b,c,d,e,f,g,⟨L,i⟩,j⟩:=h
 obtain ⟨⟨L',k⟩,q⟩:=hO
 have n1:xb≠m:=Nat.ne_of_gt hm2
 have n2:gb≠m:=Nat.ne_of_gt hm
 have n3:rb≠m:=Nat.ne_of_gt hm3
 exact ⟨qw q a n1,qw q b n1,qw q c n2,qW (qA (qw q d n3)),qW (qA (qw q e n3)),qE q d f n3,qE q e g n3,⟨L',k⟩,zU j q⟩
theorem jc.put {w W:World} {m gb xb rb T:Nat} {x:Int×Int} (u v:Value) (h:jc w m gb xb rb T x W) (h1:rb≠xb) (h2:rb≠gb) (h3:w.heap.size≤rb) (h4:m < rb):jc w m gb xb rb T x ((W.setCell ⟨rb,0,none⟩ u).setCell ⟨rb,1,none⟩ v):=by
 obtain ⟨a,b,c,d,e,f,g,⟨L,i⟩,j⟩:=h
 have n1:∀p q,(⟨rb,p,none⟩:Addr)≠⟨xb,q,none⟩:=fun p q h=>h1 (congrArg Addr.block h)
 have n2:∀p q,(⟨rb,p,none⟩:Addr)≠⟨gb,q,none⟩:=fun p q h=>h2 (congrArg Addr.block h)
 exact ⟨qc (n1 _ _) (qc (n1 _ _) a),qc (n1 _ _) (qc (n1 _ _) b),qc (n2 _ _) (qc (n2 _ _) c),qW (qB (qB (qA d))),qW (qB (qB (qA e))),by simpa using f,by simpa using g,
  ⟨L,i.block ((Below.heap_setCell _ _ _ _ (Nat.ne_of_lt h4)).trans (Below.heap_setCell _ _ _ _ (Nat.ne_of_lt h4)))⟩,yP (yP j h3 _) h3 _⟩
set_option maxHeartbeats 4000000 in
set_option maxRecDepth 100000 in
theorem qgn (m:Nat) (g:Grp) (hr T:Nat) (x:Int×Int) (hx:g.traffic[hr]? = some x) (ht:yx x) (hgT:g.trunks=T) (hT:T≤6) (w:World) (hL:∃L,qad w m L) (hf:yZ w g) :
 Calls qg 105 #[.map (some m),gv g,.int .i64 hr] w fun e w'=>e=.returned (fv (xV (low x.1 x.2) T))∧ZW m w w':=by
 obtain ⟨k1,k2,k3,k4⟩:=jq ht.1.1 ht.1.2 ht.2.1 ht.2.2
 have hof:=fun W=>Xb x W ht.1.1 (by have:=ht.2.1;omega) (by have:=ht.1.2;omega) (by have:=ht.2.2;omega)
 have hlo:=fun W h=>qfu m T (low x.1 x.2) k1 k2 k3 k4 (by omega) W h
 have hlo2:=fun W h=>qfu m (T+1) (low x.1 x.2) k1 k2 k3 k4 (by omega) W h
 obtain ⟨b1,b2,b3⟩:=qdc k1 k2 k3 k4 hT
 obtain ⟨p1,p2,_⟩:=xA k1 k2 k3 k4 T (by omega)
 obtain ⟨q1,q2,_⟩:=xA k1 k2 k3 k4 (T+1) (by omega)
 have hmi:=fun W=>qaP (qN (low x.1 x.2) T) (qN (low x.1 x.2) (T+1)) W p1 (by omega) q1 (by omega) b1 b2 b3
 have hlen:hr < g.traffic.length:=(List.getElem?_eq_some_iff.1 hx).1
 obtain ⟨tb,t0,hta,hpa⟩:=hf (by omega)
 obtain ⟨d0,d1⟩:=hpa hr x hx
 have hmlt:m < w.heap.size:=by obtain ⟨L,h⟩:=hL;exact h.lt
 have htl:tb < w.heap.size:=lt_of_cell d0
 have HL:=Lib.hid hL
 unfold xV
 generalize qN (low x.1 x.2) (T+1)=q at *
 generalize qN (low x.1 x.2) T=p at *
 generalize low x.1 x.2=y at *
 generalize low (p.1 * q.2 - q.1 * p.2) (p.2 * q.2)=r at *
 simp only [gv,hgT,hta]
 simp only [fv] at *
 have hh0:(0:Int)≤(hr:Int):=Int.natCast_nonneg hr
 have hh1:(hr:Int) < (g.traffic.length:Int):=by omega
 have hc1:((T+1:Nat):Int)=(T:Int)+1:=by omega
 simp only [hc1] at hlo2
 clear b1 b2 b3 p1 p2 q1 q2 hpa hx hL hc1 ht
 go_enter s105,ntmps105
 go_wp2_with (go_at_call 86;(with_reducible refine (hof _).mono ?_);rintro e w1 ⟨rfl,hB1⟩;(first | (replace hB:=bcl (by with_reducible assumption) hB1) | (replace hB:=bcl (by go_grown) hB1) | (have hB:=hB1));(try clear hc hg hz);obtain ⟨hc,hg⟩:=qC hB;have hz:=hB.size;clear hB1;(try simp at hz);(try have hlt0:w.heap.size < w1.heap.size:=by omega))
 have hBx:=bcl (w:=w) (by go_grown) hB
 have hl1:yj m w1:=by obtain ⟨L,h⟩:=HL.out;exact ⟨L,h.keep hBx⟩
 have hX:jc w m w.heap.size w1.heap.size (w.heap.size+1) T y (w1.alloc (.cells #[.int .i64 y.1,.int .i64 y.2] 79)).drew:=by
  have c0:w1.cell? ⟨w.heap.size,1,none⟩=some (.int .i64 T):=by rw [hc _ _ (by simp <;> omega)];go_cell
  have r0:w1.cell? ⟨w.heap.size+1,0,none⟩=some (.int .i64 0):=by rw [hc _ _ (by simp <;> omega)];go_cell
  have r1:w1.cell? ⟨w.heap.size+1,1,none⟩=some (.int .i64 0):=by rw [hc _ _ (by simp <;> omega)];go_cell
  have f0:w1.frozen? ⟨w.heap.size+1,0,none⟩=false:=by rw [hg _ _ (by simp <;> omega)];go_cell
  have f1:w1.frozen? ⟨w.heap.size+1,1,none⟩=false:=by rw [hg _ _ (by simp <;> omega)];go_cell
  obtain ⟨L,h⟩:=hl1
  have hb2:Below w1.heap.size w1 (w1.alloc (.cells #[.int .i64 y.1,.int .i64 y.2] 79)).drew:=((Below.refl _ w1).alloc (Nat.le_refl _) _).drew
  exact ⟨by go_cell,by go_cell,qi c0,qW (qA (qi r0)),qW (qA (qi r1)),qo r0 f0,qo r1 f1,⟨L,h.keep hb2⟩,zt (bcl hBx hb2)⟩
 have hw:IntKind.i64.wrap ((T:Int)+1)=(T:Int)+1:=IntWalk.i64_in _ (by omega)
 clear hc hg hB HL hl1
 go_region_held3 (fun W=>W.cell? ⟨w1.heap.size,0,none⟩=some (.int .i64 y.1)∧W.cell? ⟨w1.heap.size,1,none⟩=some (.int .i64 y.2)∧W.cell? ⟨w.heap.size,1,none⟩=some (.int .i64 T)∧W.cell? ⟨w.heap.size+1,0,none⟩=some (atD W ⟨w.heap.size+1,0,none⟩)∧W.cell? ⟨w.heap.size+1,1,none⟩=some (atD W ⟨w.heap.size+1,1,none⟩) ∧
  W.frozen? ⟨w.heap.size+1,0,none⟩=false∧W.frozen? ⟨w.heap.size+1,1,none⟩=false∧yj m W∧w.grownBy W (some m))
  (first | exact hX | ((with_reducible refine jc.lost ?_ ?_ ?_ ?_ hO);assumption;omega;omega;omega) | ((with_reducible refine jc.call ?_ hB1);assumption) | ((with_reducible refine jc.put _ _ ?_ ?_ ?_ ?_ ?_);assumption;omega;omega;omega;omega))
  (first | (go_at_call 131;(first | (with_reducible refine (hlo _ ?_).mono ?_) | (with_reducible refine (hlo2 _ ?_).mono ?_));(go_split_ands;assumption);rintro e w2 ⟨rfl,hO⟩) | (go_at_call 97;refine (hmi _).mono ?_;rintro e w2 ⟨rfl,hB1⟩))
 all_goals
  go_wp2
  rename_i hH
  obtain ⟨_,_,_,u0,u1,_,_,uM,uG⟩:=hH
  exact xh results105 yc zR rfl (qW (zn (zn (qA u0)))) (qW (zn (zn (qA u1)))) ⟨rfl,uM,uG⟩
theorem jK {x:Int×Int} (h1:0≤x.1) (h2:x.1≤12) (h3:1≤x.2) (h4:x.2≤4) {T:Nat} (hT:T≤6):0≤(xV x T).1∧(xV x T).1 < 4611686018427387904∧1≤(xV x T).2∧(xV x T).2 < 4611686018427387904:=by
 obtain ⟨b1,b2,b3⟩:=qdc h1 h2 h3 h4 hT
 obtain ⟨p1,p2,_⟩:=xA h1 h2 h3 h4 T (by omega)
 obtain ⟨q1,q2,_⟩:=xA h1 h2 h3 h4 (T+1) (by omega)
 have m1:=Int.mul_nonneg q1 (show 0≤(qN x T).2 by omega)
 have m2:0 < (qN x T).2 * (qN x (T+1)).2:=Int.mul_pos (by omega) (by omega)
 unfold xV
 obtain ⟨t1,t2,t3,t4,_⟩:=xJ (a:=(qN x T).1 * (qN x (T+1)).2 - (qN x (T+1)).1 * (qN x T).2) (b:=(qN x T).2 * (qN x (T+1)).2) (by omega) m2
 exact ⟨t1,by omega,t3,by omega⟩
def qp (g:Grp) (h:Nat):Int×Int:=xV (low (g.traffic.getD h (0,1)).1 (g.traffic.getD h (0,1)).2) g.trunks.toNat
def qX (B:Bk) (h:Nat):Nat→Int×(Int×Int)
 | 0=>(-1,(0,1))
 | k+1=>match B.gs[k]? with
   | none=>qX B h k
   | some g=>if g.trunks=7 then qX B h k else if (qX B h k).1=-1∨above (qp g h) (qX B h k).2=true then ((k:Int),qp g h) else qX B h k
theorem qcy {B:Bk} (hV:Valid B) {h:Nat} (hh:(h:Int) < B.hours):∀k,-1≤(qX B h k).1∧(qX B h k).1 < k∧0≤(qX B h k).2.1∧(qX B h k).2.1 < 4611686018427387904∧1≤(qX B h k).2.2∧(qX B h k).2.2 < 4611686018427387904
 | 0=>by simp [qX]
 | k+1=>by
   have ih:=qcy hV hh k
   simp only [qX]
   cases hg:B.gs[k]? with
   | none=>exact ⟨ih.1,by have:=ih.2.1;show (qX B h k).1 < ((k+1:Nat):Int);omega,ih.2.2⟩
   | some g =>
     simp only
     have hG:=hV.grp g (List.mem_of_getElem? hg)
     by_cases h7:g.trunks=7
     ·rw [if_pos h7];exact ⟨ih.1,by have:=ih.2.1;omega,ih.2.2⟩
     ·rw [if_neg h7]
      split
      ·have hl:h < g.traffic.length:=by have:=hG.len;omega
       have hx:=hG.traf _ (List.getElem_mem hl)
       obtain ⟨k1,k2,k3,k4⟩:=jq hx.1.1 hx.1.2 hx.2.1 hx.2.2
       have hs:=jK k1 k2 k3 k4 (T:=g.trunks.toNat) (by have:=hG.tr7;omega)
       have e:g.traffic.getD h (0,1)=g.traffic[h]:=by rw [List.getD_eq_getElem?_getD,List.getElem?_eq_getElem hl];rfl
       unfold qp
       rw [e]
       exact ⟨by show (-1:Int)≤(k:Int);omega,by show (k:Int) < ((k+1:Nat):Int);omega,hs⟩
      ·exact ⟨ih.1,by have:=ih.2.1;omega,ih.2.2⟩
structure BestS (w:World) (m:Nat) (x:Int×Int) (W:World):Prop where
 gr:w.grownBy W (some m)
 map:yj m W
 size:w.heap.size+3≤W.heap.size
 r0:W.cell? ⟨w.heap.size+1,0,none⟩=some (.int .i64 0)
 r1:W.cell? ⟨w.heap.size+1,1,none⟩=some (.int .i64 0)
 f0:W.frozen? ⟨w.heap.size+1,0,none⟩=false
 f1:W.frozen? ⟨w.heap.size+1,1,none⟩=false
 m0:W.cell? ⟨w.heap.size+1+1,0,none⟩=some (.int .i64 x.1)
 m1:W.cell? ⟨w.heap.size+1+1,1,none⟩=some (.int .i64 x.2)
 e0:W.frozen? ⟨w.heap.size+1+1,0,none⟩=false
 e1:W.frozen? ⟨w.heap.size+1+1,1,none⟩=false
theorem yj.keep {W W1:World} {m:Nat} (h:yj m W) (hB:Below W.heap.size W W1):yj m W1:=let ⟨L,h⟩:=h;⟨L,h.keep hB⟩
theorem yj.lt {W:World} {m:Nat} (h:yj m W):m < W.heap.size:=let ⟨_,h⟩:=h;h.lt
theorem yj.set {W:World} {m:Nat} (h:yj m W) {p:Addr} (hp:m≠p.block) (v:Value):yj m (W.setCell p v):=let ⟨L,h⟩:=h;⟨L,h.block (Below.heap_setCell _ _ _ _ hp)⟩
theorem BestS.call {w:World} {m:Nat} {x:Int×Int} {W W1:World} (h:BestS w m x W) (hB:Below W.heap.size W W1):BestS w m x W1 :=
 ⟨zU h.gr (zt hB),h.map.keep hB,Nat.le_trans h.size hB.size,qb _ hB h.r0,qb _ hB h.r1,qd _ hB h.r0 h.f0,qd _ hB h.r1 h.f1,qb _ hB h.m0,qb _ hB h.m1,qd _ hB h.m0 h.e0,qd _ hB h.m1 h.e1⟩
theorem BestS.one {w:World} {m:Nat} {x:Int×Int} {W W1:World} (h:BestS w m x W) (hm:m < w.heap.size) (hO:ZW m W W1):BestS w m x W1:=by
 have n1:w.heap.size+1≠m:=by omega
 have n2:w.heap.size+1+1≠m:=by omega
 exact ⟨zU h.gr hO.2,hO.1,Nat.le_trans h.size hO.2.size,qw hO.2 h.r0 n1,qw hO.2 h.r1 n1,qE hO.2 h.r0 h.f0 n1,qE hO.2 h.r1 h.f1 n1,qw hO.2 h.m0 n2,qw hO.2 h.m1 n2,qE hO.2 h.m0 h.e0 n2,qE hO.2 h.m1 h.e1 n2⟩
theorem BestS.put {w:World} {m:Nat} {x:Int×Int} {W:World} (y:Int×Int) (h:BestS w m x W) (hm:m < w.heap.size):BestS w m y ((W.setCell ⟨w.heap.size+1+1,0,none⟩ (.int .i64 y.1)).setCell ⟨w.heap.size+1+1,1,none⟩ (.int .i64 y.2)):=by
 have n1:∀p q,(⟨w.heap.size+1+1,p,none⟩:Addr)≠⟨w.heap.size+1,q,none⟩:=fun p q h=>by have:=congrArg Addr.block h;simp only at this;omega
 have hp:=ZN (.int .i64 y.1) (.int .i64 y.2) h.m0 h.m1
 exact ⟨yP (yP h.gr (by show _≤w.heap.size+1+1;omega) _) (by show _≤w.heap.size+1+1;omega) _,(h.map.set (by show m≠w.heap.size+1+1;omega) _).set (by show m≠w.heap.size+1+1;omega) _,by simpa using h.size,
  qc (n1 _ _) (qc (n1 _ _) h.r0),qc (n1 _ _) (qc (n1 _ _) h.r1),by simpa using h.f0,by simpa using h.f1,hp.1,hp.2,by simpa using h.e0,by simpa using h.e1⟩
theorem YJ {W:World} {m:Nat} (h:yj m W) {p:Addr} {v:Value} (hc:W.cell? p=some v):p.block≠m:=by
 rintro rfl
 obtain ⟨L,es,c,h1,_⟩:=h
 unfold World.cell? at hc
 rw [h1] at hc
 cases hc
theorem one_cell {w W:World} {m:Nat} (hM:yj m w) (h:w.grownBy W (some m)) {p:Addr} {v:Value} (hc:w.cell? p=some v):W.cell? p=some v:=qw h hc (YJ hM hc)
theorem yZ.one {w W:World} {m:Nat} (hM:yj m w) (h:w.grownBy W (some m)) {g:Grp} (ht:yZ w g):yZ W g:=fun hl =>
 let ⟨b,o,e,hp⟩:=ht hl
 ⟨b,o,e,fun i x hx=>⟨one_cell hM h (hp i x hx).1,one_cell hM h (hp i x hx).2⟩⟩
def bestV (r:Int×(Int×Int)):Value:=.tuple #[.int .i64 r.1,fv r.2]
set_option maxHeartbeats 8000000 in
set_option maxRecDepth 100000 in
theorem qcz (B:Bk) (m h:Nat) (w:World) (hb:BookAt w B) (hV:Valid B) (hG:Globs w) (hL:yj m w) (hh:(h:Int) < B.hours) :
 Calls qg 66 #[bv B,.map (some m),.int .i64 h] w fun e w'=>e=.returned (bestV (qX B h B.gs.length))∧ZW m w w':=by
 have hml:=hL.lt
 obtain ⟨_,_,n0,n1⟩:=hG
 have hg0:1 < w.heap.size:=lt_of_cell n0
 have hg00:0 < w.heap.size:=Nat.lt_of_le_of_lt (Nat.zero_le _) hg0
 obtain ⟨b,o,hga,hcs⟩:=hb.row hV.len1
 have HB:=Lib.hid (qcy hV hh)
 have HV:=Lib.hid hV
 have HH:=Lib.hid hb
 have HC:=Lib.hid hcs
 have HS:Hid (∀k g,B.gs[k]? = some g→qX B h (k+1)=if g.trunks=7 then qX B h k else if (qX B h k).1=-1∨above (qp g h) (qX B h k).2=true then ((k:Int),qp g h) else qX B h k):=Lib.hid fun k g hg=>by simp only [qX,hg]
 have HZ:Hid (qX B h 0=(-1,(0,1))):=Lib.hid rfl
 have HL:=Lib.hid hL
 have HM0:=Lib.hid hL
 obtain ⟨N,hN⟩:∃N,N=qX B h:=⟨_,rfl⟩
 simp only [← hN] at HB HS HZ ⊢
 have hl4:=hV.len4
 clear hN hb hV hcs hL
 obtain ⟨lim,gr,hr,gs,ga,gc⟩:=B
 simp only at hga hh hl4
 subst hga
 unfold bestV
 simp only [bv,fv]
 go_enter s66,ntmps66
 go_wp2
 go_region
 go_wp2
 obtain ⟨W,hW⟩:∃W,(((w.alloc (Obj.cells #[.int .i64 lim.1,.int .i64 lim.2,.int .i64 gr,.int .i64 hr,.slice (some ⟨b,o,none⟩) gs.length gc] 75)).alloc (Obj.cells #[.int .i64 0,.int .i64 0] 79)).alloc (Obj.cells #[.int .i64 0,.int .i64 1] 79)).drew=W:=⟨_,rfl⟩
 have hBW:Below w.heap.size w W:=by subst hW;go_grown
 have hW0:BestS w m (0,1) W:=by
  subst hW
  exact ⟨zt hBW,HL.out.keep hBW,by simp,by go_cell,by go_cell,by go_cell,by go_cell,by go_cell,by go_cell,by go_cell,by go_cell⟩
 rw [hW]
 clear hW HL
 go_loopw [8,19] (fun gi i wr=>∃k:Nat,i=.int .i64 k∧k≤gs.length∧gi=.int .i64 (N k).1∧BestS w m (N k).2 wr) (fun _ i _=>gs.length - (intOf i).toNat)
 case atStart=>exact ⟨0,rfl,by omega,by rw [HZ.out],by rw [HZ.out];exact hW0⟩
 case round =>
  clear hW0 hBW
  obtain ⟨k,rfl,hk,rfl,hS⟩:=hrel
  have hsz:=hS.size
  have hgr:=hS.gr
  by_cases hlt:k < gs.length
  ·obtain ⟨g,hg⟩:∃g,gs[k]? = some g:=⟨gs[k],by simp [hlt]⟩
   have hm:g∈gs:=List.mem_of_getElem? hg
   obtain ⟨c0,c1,c2⟩:=HC.out k g hg
   have hbm:b≠m:=YJ HM0.out c0
   have c0:=qw hgr c0 hbm
   have c1:=qw hgr c1 hbm
   have c2:=qw hgr c2 hbm
   have hlb:b < wr.heap.size:=lt_of_cell c0
   have hlb2:b < wr.heap.size+1:=by omega
   have hGG:=HV.out.grp g hm
   obtain ⟨T,hT⟩:=Int.eq_ofNat_of_zero_le hGG.tr0
   have hT7:=hGG.tr7
   have hsn:=HS.out k g hg
   obtain ⟨v0,v1,v2,v3,v4,v5⟩:=HB.out k
   have hml2:m < wr.heap.size:=by omega
   by_cases h7:g.trunks=7
   ·rw [if_pos h7] at hsn
    rw [h7] at c1
    have HN:=Lib.hid hsn
    clear hsn hg hm h7 hT hT7 hGG
    go_wp2
    go_roundw
    case rel=>exact ⟨k+1,rfl,by omega,by rw [HN.out],by rw [HN.out];exact hS.call ((Below.refl _ wr).alloc (Nat.le_refl _) _)⟩
    case measure=>simp [intOf];omega
   ·rw [if_neg h7] at hsn
    have hT6:T≤6:=by omega
    have h7':((T:Int) == 7)=false:=by rw [beq_eq_false_iff_ne];omega
    rw [hT] at c1
    have hl:h < g.traffic.length:=by have:=hGG.len;simp only at this;omega
    have hxT:=hGG.traf _ (List.getElem_mem hl)
    have hsv:=fun W hM hF=>qgn m g h T g.traffic[h] (by simp [hl]) hxT hT hT6 W hM hF
    have eD:g.traffic.getD h (0,1)=g.traffic[h]:=by rw [List.getD_eq_getElem?_getD,List.getElem?_eq_getElem hl];rfl
    obtain ⟨k1,k2,k3,k4⟩:=jq hxT.1.1 hxT.1.2 hxT.2.1 hxT.2.2
    have hsb:=jK k1 k2 k3 k4 hT6
    have eS:qp g h=xV (low g.traffic[h].1 g.traffic[h].2) T:=by unfold qp;rw [eD,hT,Int.toNat_natCast]
    rw [eS] at hsn
    have hF:=yZ.one HM0.out hgr (HH.out.traf g hm)
    simp only [gv,hT,fv] at hsv
    have HSV:=Lib.hid (hsv (wr.alloc (.cells #[.string g.name,.int .i64 T,.slice g.ta g.traffic.length g.tc] 36)) (hS.map.keep ((Below.refl _ wr).alloc (Nat.le_refl _) _)) (hF.keep ((Below.refl _ wr).alloc (Nat.le_refl _) _)))
    clear hsv eD eS hxT k1 k2 k3 k4 hF
    generalize xV (low g.traffic[h].1 g.traffic[h].2) T=y at *
    have hab:=fun W=>YD y (N k).2 W hsb.1 (by have:=hsb.2.2.1;omega) v2 (by omega) hsb.2.1 hsb.2.2.2 v3 v5
    generalize N k=st at *
    obtain ⟨gi,z⟩:=st
    simp only [fv] at hsn hab hS v0 v1 ⊢
    have hS1:=hS.call ((Below.refl _ wr).alloc (Nat.le_refl _) (.cells #[.string g.name,.int .i64 T,.slice g.ta g.traffic.length g.tc] 36))
    have hsz1:wr.heap.size < (wr.alloc (.cells #[.string g.name,.int .i64 T,.slice g.ta g.traffic.length g.tc] 36)).heap.size:=by simp
    clear hm hg hT hT7 hGG hsb v2 v3 v4 v5 hS
    by_cases hgi:gi=-1
    ·rw [if_pos (.inl hgi)] at hsn
     have HN:=Lib.hid hsn
     subst hgi
     clear hsn hab
     go_wp2_with (go_at_call 105;(with_reducible refine HSV.out.mono ?_);rintro e w1 ⟨rfl,hO⟩;have hS2:=hS1.one hml hO;have hz2:=hS2.size;have g1:=hO.2.size;simp at g1;have hz3:w.heap.size+1+1 < w1.heap.size:=(by omega);obtain ⟨_,_,_,_,_,_,_,u0,u1,x0,x1⟩:=id hS2)
     go_region
     go_wp2
     go_roundw
     case rel=>exact ⟨k+1,rfl,by omega,by rw [HN.out],by rw [HN.out];exact ((hS2.put y hml).call ((Below.refl _ _).alloc (Nat.le_refl _) _)).call (Below.refl _ _).drew⟩
     case measure=>simp [intOf];omega
    ·have hgi':(gi == -1)=false:=by rw [beq_eq_false_iff_ne];exact hgi
     by_cases hab2:above y z=true
     ·rw [if_pos (.inr hab2)] at hsn
      have HN:=Lib.hid hsn
      simp only [hab2] at hab
      clear hsn hab2 hgi
      go_wp2_with (first | (go_at_call 105;(with_reducible refine HSV.out.mono ?_);rintro e w1 ⟨rfl,hO⟩;have hS2:=hS1.one hml hO;have hz2:=hS2.size;have g1:=hO.2.size;simp at g1;have hz3:w.heap.size+1+1 < w1.heap.size:=(by omega);obtain ⟨_,_,_,_,_,_,_,u0,u1,x0,x1⟩:=id hS2) | (go_at_call 87;(with_reducible refine (hab _).mono ?_);rintro e w2 ⟨rfl,hB2⟩;have hS3:=(hS2.call ((Below.refl _ _).alloc (Nat.le_refl _) (.cells #[.int .i64 y.1,.int .i64 y.2] 79))).call hB2;have y0:=qb ⟨w1.heap.size,0,none⟩ hB2 (v:=.int .i64 y.1) (by go_cell);have y1:=qb ⟨w1.heap.size,1,none⟩ hB2 (v:=.int .i64 y.2) (by go_cell);clear u0 u1 x0 x1;obtain ⟨_,_,_,_,_,_,_,u0,u1,x0,x1⟩:=id hS3))
      go_region
      go_wp2
      go_roundw
      case rel=>exact ⟨k+1,rfl,by omega,by rw [HN.out],by rw [HN.out];exact (hS3.put y hml).call (Below.refl _ _).drew⟩
      case measure=>simp [intOf];omega
     ·have hab2:above y z=false:=by simpa using hab2
      rw [if_neg (by rintro (h | h);exact hgi h;rw [hab2] at h;cases h)] at hsn
      have HN:=Lib.hid hsn
      simp only [hab2] at hab
      clear hsn hab2 hgi
      go_wp2_with (first | (go_at_call 105;(with_reducible refine HSV.out.mono ?_);rintro e w1 ⟨rfl,hO⟩;have hS2:=hS1.one hml hO;have hz2:=hS2.size;have g1:=hO.2.size;simp at g1;have hz3:w.heap.size+1+1 < w1.heap.size:=(by omega);obtain ⟨_,_,_,_,_,_,_,u0,u1,x0,x1⟩:=id hS2) | (go_at_call 87;(with_reducible refine (hab _).mono ?_);rintro e w2 ⟨rfl,hB2⟩;have hS3:=(hS2.call ((Below.refl _ _).alloc (Nat.le_refl _) (.cells #[.int .i64 y.1,.int .i64 y.2] 79))).call hB2))
      go_roundw
      case rel=>exact ⟨k+1,rfl,by omega,by rw [HN.out],by rw [HN.out];exact hS3⟩
      case measure=>simp [intOf];omega
  ·obtain rfl:k=gs.length:=by omega
   obtain ⟨q1,q2,q3,r0,r1,f0,f1,m0,m1,e0,e1⟩:=hS
   have hs1:w.heap.size+1 < wr.heap.size:=by omega
   go_wp2
   go_region
   go_wp2
   have hp:=ZN (.int .i64 (N gs.length).2.1) (.int .i64 (N gs.length).2.2) r0 r1
   refine bodyPost_ret (qdW results66 rfl rfl (yR yc zR hp.1 hp.2)) rfl ⟨rfl,?_,?_⟩
   ·exact ((q2.set (by show m≠w.heap.size+1;omega) _).set (by show m≠w.heap.size+1;omega) _).keep (Below.refl _ _).drew
   ·exact zU (yP (yP q1 (p:=⟨w.heap.size+1,0,none⟩) (Nat.le_succ _) _) (p:=⟨w.heap.size+1,1,none⟩) (Nat.le_succ _) _) (zt (Below.refl _ _).drew)
theorem YY (w:World):(Instr.makeMap 91 none).run qg w=.ok (.map (some w.heap.size)) (w.alloc (.map #[] 0)):=run_makeMap _ _
theorem Qu (w:World):yj w.heap.size (w.alloc (.map #[] 0)):=⟨[],#[],0,World.alloc_heap_new w _,rfl⟩
end Go.Proofs.Tryz
section
namespace Go.Proofs.Tryz
open Go Go.Load Go.RowKit Go.Maps
def xC (l:List Grp) (b:Int):List Grp:=if b=-1 then l else match l[b.toNat]? with
 | some x=>l.set b.toNat { x with trunks:=x.trunks+1 }
 | none=>l
theorem xI:∀(l:List Grp) (k:Nat) (x:Grp) (t:Int),l[k]? = some x→qM (l.set k { x with trunks:=t })=(qM l).set (k * 3+1) (.int .i64 t)
 | [],k,x,t,h=>by simp at h
 | y :: l,0,x,t,h=>by
   obtain rfl:y=x:=by simpa using h
   rfl
 | y :: l,k+1,x,t,h=>by
   have ih:=xI l k x t (by simpa using h)
   have e:(k+1) * 3+1=(k * 3+1)+3:=by omega
   rw [e]
   show [Value.string y.name,.int .i64 y.trunks,.slice y.ta y.traffic.length y.tc] ++ qM (l.set k _)=_
   rw [ih]
   rfl
theorem OwnAt.one {W W1:World} {g m:Nat} {xs:List Value} (h:OwnAt W g xs) (k:W.grownBy W1 (some m)) (e:g≠m):OwnAt W1 g xs:=fun i u hu=>⟨qw k (h i u hu).1 e,qE k (h i u hu).1 (h i u hu).2 e⟩
theorem Five.one {W W1:World} {b m:Nat} {v0 v1 v2 v3 v4:Value} (h:Five W b v0 v1 v2 v3 v4) (k:W.grownBy W1 (some m)) (e:b≠m):Five W1 b v0 v1 v2 v3 v4:=by
 obtain ⟨⟨a0,a1,a2,a3,a4⟩,⟨f0,f1,f2,f3,f4⟩⟩:=h
 exact ⟨⟨qw k a0 e,qw k a1 e,qw k a2 e,qw k a3 e,qw k a4 e⟩,⟨qE k a0 f0 e,qE k a1 f1 e,qE k a2 f2 e,qE k a3 f3 e,qE k a4 f4 e⟩⟩
theorem Five.at {W:World} {b c j:Nat} {v v0 v1 v2 v3 v4:Value} (h:Five W b v0 v1 v2 v3 v4) (e:c≠b):Five (W.setCell ⟨c,j,none⟩ v) b v0 v1 v2 v3 v4:=by
 obtain ⟨⟨a0,a1,a2,a3,a4⟩,⟨f0,f1,f2,f3,f4⟩⟩:=h
 have n:∀q,(⟨c,j,none⟩:Addr)≠⟨b,q,none⟩:=fun q h=>e (congrArg Addr.block h)
 exact ⟨⟨qc (n _) a0,qc (n _) a1,qc (n _) a2,qc (n _) a3,qc (n _) a4⟩,by simpa using f0,by simpa using f1,by simpa using f2,by simpa using f3,by simpa using f4⟩
theorem OwnGs.one {base g k m:Nat} {W W1:World} {l:List Grp} {tb:Nat→Nat} (h:OwnGs base W g l k tb) (hk:W.grownBy W1 (some m)) (e:g≠m) (et:∀i,i < k→tb i≠m):OwnGs base W1 g l k tb :=
 ⟨h.lo,Nat.lt_of_lt_of_le h.hi hk.size,h.row.one hk e,fun i x hi hx=>let ⟨a,b,c,d,o,f⟩:=h.ta i x hi hx;⟨a,b,Nat.lt_of_lt_of_le c hk.size,d,o.one hk (et i hi),f⟩,h.apart⟩
theorem OwnGs.trunk {base g k:Nat} {W:World} {l:List Grp} {tb:Nat→Nat} {x:Grp} (h:OwnGs base W g l l.length tb) (hx:l[k]? = some x) (t:Int) :
 OwnGs base (W.setCell ⟨g,k * 3+1,none⟩ (.int .i64 t)) g (l.set k { x with trunks:=t }) (l.set k { x with trunks:=t }).length tb:=by
 have hk:k < l.length:=(List.getElem?_eq_some_iff.1 hx).1
 rw [List.length_set]
 refine ⟨h.lo,by simpa using h.hi,?_,fun i y hi hy=>?_,h.apart⟩
 ·rw [xI l k x t hx]
  exact h.row.set (by rw [zB];omega)
 ·by_cases e:k=i
  ·subst e
   rw [List.getElem?_set_self hk] at hy
   obtain rfl:=Option.some.inj hy
   obtain ⟨a,b,c,d,o,f⟩:=h.ta k x hi hx
   exact ⟨a,b,by simpa using c,d,o.other (Ne.symm d),f⟩
  ·rw [List.getElem?_set_ne e] at hy
   obtain ⟨a,b,c,d,o,f⟩:=h.ta i y hi hy
   exact ⟨a,b,by simpa using c,d,o.other (Ne.symm d),f⟩
structure SpSt (w:World) (B:Bk) (h q mc hc m g gc:Nat) (tb:Nat→Nat) (l:List Grp) (W:World):Prop where
 bel:Below w.heap.size w W
 own:OwnGs (q+1) W g l l.length tb
 gm:g < m
 tm:∀i,i < l.length→tb i < m
 box:Five W q (.int .i64 B.lim.1) (.int .i64 B.lim.2) (.int .i64 B.growth) (.int .i64 B.hours) (.slice (some ⟨g,0,none⟩) l.length gc)
 lo:w.heap.size≤hc
 hq:hc < q
 mm:m < mc
 mp:W.cell? ⟨mc,0,none⟩=some (.map (some m))
 hp:W.cell? ⟨hc,0,none⟩=some (.int .i64 h)
 map:yj m W
 cap:l.length≤gc
 small:l.length≤20∧∀x∈l,x.traffic.length≤20∧x.name.size≤100
variable {w W W1:World} {B:Bk} {h q mc hc m g gc:Nat} {tb:Nat→Nat} {l:List Grp}
theorem SpSt.keep (s:SpSt w B h q mc hc m g gc tb l W) (hB:Below W.heap.size W W1):SpSt w B h q mc hc m g gc tb l W1 :=
 ⟨bcl s.bel hB,s.own.keep hB,s.gm,s.tm,s.box.keep hB,s.lo,s.hq,s.mm,qb _ hB s.mp,qb _ hB s.hp,s.map.keep hB,s.cap,s.small⟩
theorem SpSt.one (s:SpSt w B h q mc hc m g gc tb l W) (hO:ZW m W W1):SpSt w B h q mc hc m g gc tb l W1:=by
 have h1:=s.own.lo
 have h2:=s.gm
 have h3:=s.lo
 have h4:=s.hq
 have h5:=s.mm
 exact ⟨s.bel.grown hO.2 s.bel.size (fun k e=>by cases e;omega),s.own.one hO.2 (by omega) (fun i hi=>by have:=s.tm i hi;omega),s.gm,s.tm,s.box.one hO.2 (by omega),s.lo,s.hq,s.mm,qw hO.2 s.mp (by show mc≠m;omega),qw hO.2 s.hp (by show hc≠m;omega),hO.1,s.cap,s.small⟩
theorem SpSt.trunk (s:SpSt w B h q mc hc m g gc tb l W) {k:Nat} {x:Grp} (hx:l[k]? = some x) (t:Int):SpSt w B h q mc hc m g gc tb (l.set k { x with trunks:=t }) (W.setCell ⟨g,k * 3+1,none⟩ (.int .i64 t)):=by
 have h1:=s.own.lo
 have h2:=s.gm
 have h3:=s.lo
 have h4:=s.hq
 have h5:=s.mm
 have n:∀b j,b≠g→(⟨g,k * 3+1,none⟩:Addr)≠⟨b,j,none⟩:=fun b j e h=>e (congrArg Addr.block h).symm
 refine ⟨s.bel.setCell (by show w.heap.size≤g;omega) _,s.own.trunk hx t,s.gm,fun i hi=>s.tm i (by simpa using hi),?_,s.lo,s.hq,s.mm,qc (n _ _ (by omega)) s.mp,qc (n _ _ (by omega)) s.hp,s.map.set (by show m≠g;omega) _,by simpa using s.cap,by simpa using s.small.1,fun y hy=>?_⟩
 ·rw [List.length_set];exact s.box.at (by omega)
 ·rcases List.mem_or_eq_of_mem_set hy with hy | rfl
  ·exact s.small.2 y hy
  ·exact s.small.2 x (List.mem_of_getElem? hx)
theorem SpSt.book (s:SpSt w B h q mc hc m g gc tb l W):BookAt W { B with gs:=l,ga:=some ⟨g,0,none⟩,gc:=gc } :=
 ⟨fun _=>⟨g,0,rfl,Xd s.own.row⟩,fun x hx _=>by
   obtain ⟨i,hi,rfl⟩:=List.getElem_of_mem hx
   obtain ⟨a,_,_,_,b,_⟩:=s.own.ta i l[i] hi (by simp)
   exact ⟨tb i,0,a,qaT b⟩,s.small,s.cap⟩
theorem Zz {B:Bk} {h:Nat}:∀k,k≤B.gs.length→(qX B h k).1=-1∨∃(i:Nat) (x:Grp),(qX B h k).1=i∧B.gs[i]? = some x∧x.trunks≠7
 | 0,_=>.inl rfl
 | k+1,hk=>by
   obtain ⟨x,hx⟩:∃x,B.gs[k]? = some x:=⟨B.gs[k],by simp⟩
   have ih:=Zz (B:=B) (h:=h) k (by omega)
   simp only [qX,hx]
   by_cases e:x.trunks=7
   ·rw [if_pos e];exact ih
   ·rw [if_neg e]
    split
    ·exact .inr ⟨k,x,rfl,hx,e⟩
    ·exact ih
end Go.Proofs.Tryz
end
