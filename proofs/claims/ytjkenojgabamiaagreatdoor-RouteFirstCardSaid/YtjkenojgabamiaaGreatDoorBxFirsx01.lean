/-
  Lemmas about the program and the machine (D11 to D13), upon which the last text of this claim rests; no condition.
-/
import Derived.Laws.AppendOwnNone
import Derived.Test.YtjkenojgabamiaaGreatDoorB12
set_option linter.unusedSimpArgs false
set_option linter.unusedVariables false
namespace Go.Proofs.Tryz
open Go Go.Load Go.LoadR Go.RowKit
def XL (D:DayM) (P:Int) (R:List Int) (g:Nat) (t:Int):Int:=max 0 (P - zZ t g D.cs (zb D R) - Qg t g D.hs)
theorem way_at {D:DayM} {w:World} (h:DayAt w D) (hs:DaySm D) {c:CalM} {r:Nat} (hr:r < (qz D c).ws.length):∃b o x,(qz D c).a=some ⟨b,o,none⟩∧(qz D c).ws[r]? = some x∧w.cell? ⟨b,o+r,none⟩=some (.slice x.a x.l.length x.c)∧qg w 1 encI x.a x.l∧x.l.length≤20∧x.l.length≤x.c∧(qz D c).ws.length≤20∧(qz D c).ws.length≤(qz D c).c:=by
 have ho:=qbJ (D:=D) (c:=c) (by omega)
 obtain ⟨b,o,e,hP⟩:=h.ws _ ho (by omega)
 have hx:=List.getElem?_eq_getElem hr
 have hm:=List.mem_of_getElem? hx
 have c0:=hP r _ hx 0 _ rfl
 simp only [Nat.mul_one,Nat.add_zero] at c0
 exact ⟨b,o,_,e,hx,c0,h.ls _ ho _ hm,(hs.ls _ ho _ hm).1,(hs.ls _ ho _ hm).2,(hs.ws _ ho).1,(hs.ws _ ho).2⟩
set_option maxHeartbeats 4000000 in
set_option maxRecDepth 100000 in
theorem qaP (D:DayM) (l R:List Int) (la ra:Option Addr) (lc rc:Nat) (g:Nat) (t:Int) (w:World) (h:DayAt w D) (hs:DaySm D) (hlc:l.length≤20∧l.length≤lc) (hl:qg w 1 encI la l) (hlp:∀x∈l,0≤x∧x≤100) (hg:g < l.length) (hR:R.length≤D.cs.length∧R.length≤rc) (hr:qg w 1 encI ra R) (hok:∀(k:Nat) r c,R[k]? = some r→D.cs[k]? = some c→r < (qz D c).ws.length) (hm:∀h∈D.hs,0≤h.m∧h.m≤6) :
 Calls qj 54 #[dv D,.slice la l.length lc,.slice ra R.length rc,.int .i64 g,.int .i64 t] w fun e w'=>e=.returned (.int .i64 (XL D (l.getD g 0) R g t))∧Below w.heap.size w w':=by
 obtain ⟨lb,lo,rfl,hLP⟩:=hl (by omega)
 obtain ⟨P,hP⟩:∃P,l[g]? = some P:=⟨l[g],List.getElem?_eq_getElem hg⟩
 have hPd:l.getD g 0=P:=by rw [List.getD_eq_getElem?_getD,hP];rfl
 have hPb:=hlp P (List.mem_of_getElem? hP)
 have l0:=hLP g P hP 0 _ rfl
 simp only [Nat.mul_one,Nat.add_zero] at l0
 rw [hPd]
 have HWO:=Lib.hid fun c W (hB:Below w.heap.size w W)=>xZ D c W (h.keep hB) hs
 have HWY:=Lib.hid fun (c:CalM) (r:Nat) (hr:r < (qz D c).ws.length)=>way_at h hs hr
 obtain ⟨V,hV⟩:∃V,XL D P R g t=V:=⟨_,rfl⟩
 rw [hV]
 unfold XL at hV
 have HTK:=Lib.hid fun (k:Nat) (r:Int) (c:CalM) (h1:R[k]? = some r) (h2:D.cs[k]? = some c)=>QT (D:=D) h1 h2
 have htl:(zb D R).length=R.length:=by unfold zb;rw [List.length_map,List.length_zip];omega
 generalize zb D R=kt at *
 have HTL:=Lib.hid htl
 have HV:=Lib.hid hV
 have HOK:=Lib.hid hok
 have HR:=Lib.hid hr
 have HHS:=Lib.hid h.hs
 have HCS:=Lib.hid h.cs
 have HMS:=Lib.hid hm
 have scs:=hs.cs
 have shs:=hs.hs
 clear h hs hl hlp hr hok hm hLP hP hPd hV htl
 have htw:∀(c:CalM) (r:Int),jc D c r=if r < 0 then Qd else (qz D c).ws.getD r.toNat Qd:=fun _ _=>rfl
 have HTW:=Lib.hid htw
 clear htw
 unfold dv at *
 unfold Zu at HWO
 generalize qz D=OF at *
 generalize jc D=TW at *
 obtain ⟨ts,ta2,tc2,gs,ga,gc,os,oa,oc2,hs,ha,hc,cs,ca,cc⟩:=D
 simp only at *
 generalize Value.slice ta2 ts.length tc2=x0 at *
 generalize Value.slice ga gs.length gc=x1 at *
 generalize Value.slice oa os.length oc2=x2 at *
 have hg0:(0:Int)≤(g:Int):=Int.natCast_nonneg g
 have hg1:(g:Int) < (l.length:Int):=by omega
 have hgc:(g:Int)≤(lc:Int):=by omega
 obtain ⟨W,hW⟩:∃W,w.alloc (Obj.cells #[x0,x1,x2,.slice ha hs.length hc,.slice ca cs.length cc] 28)=W:=⟨_,rfl⟩
 have h5:B5 W w.heap.size x0 x1 x2 (.slice ha hs.length hc) (.slice ca cs.length cc):=by subst hW;exact B5.new ..
 have hBW:Below w.heap.size w W:=by subst hW;go_grown
 have H5:=Lib.hid h5
 clear h5
 replace l0:=qb _ hBW l0
 go_enter (sf 54 f54),ntmps54
 go_upto_region 1 with fail
 try rw [hW]
 clear hW
 go_wp2
 go_loopw [12,11] (fun i q wr=>∃(k:Nat) (A:Int),i=.int .i64 k∧q=.int .i64 A∧k≤R.length∧-(k:Int)≤A∧A≤100∧Below W.heap.size W wr∧Hid (A - zZ t g (cs.drop k) (kt.drop k)=P - zZ t g cs kt)) (fun i _ _=>R.length - (intOf i).toNat)
 case atStart=>exact ⟨0,P,rfl,rfl,by omega,by omega,by omega,Below.refl _ _,Lib.hid (by simp)⟩
 case round =>
  clear l0
  obtain ⟨k,A,rfl,rfl,hk,hA0,hA1,hBr,HE⟩:=hrel
  obtain ⟨k0,k1,k2,k3,k4⟩:=H5.out.keep hBr
  have hBw:=bcl hBW hBr
  have hz:=lt_of_cell k0
  have hzW:=hBr.size
  simp only at hz
  by_cases hlt:k < R.length
  ·obtain ⟨b,o,rfl,hP⟩:=HCS.out (by show 1≤cs.length;omega)
   obtain ⟨c,hx⟩:∃x,cs[k]? = some x:=⟨cs[k]'(by omega),by simp⟩
   obtain ⟨r,hy⟩:∃x,R[k]? = some x:=⟨R[k],by simp [hlt]⟩
   obtain ⟨gb,go,rfl,hQ⟩:=HR.out (by omega)
   have hkc:(k:Int)≤(cc:Int):=by omega
   have hkl:(k:Int) < (cs.length:Int):=by omega
   have hkt:(k:Int)≤(rc:Int):=by omega
   have hkR:(k:Int) < (R.length:Int):=by omega
   have c0:=qb _ hBw (hP k c hx 0 _ rfl)
   have c1:=qb _ hBw (hP k c hx 1 _ rfl)
   have c2:=qb _ hBw (hP k c hx 2 _ rfl)
   have c3:=qb _ hBw (hP k c hx 3 _ rfl)
   have c4:=qb _ hBw (hP k c hx 4 _ rfl)
   have d0:=qb _ hBw (hQ k r hy 0 _ rfl)
   simp only [Nat.mul_one,Nat.add_zero] at c0 d0
   have hwo:=HWO.out c
   have hwy:=HWY.out c
   have hrk:=HOK.out k r c hy hx
   have hA:=HE.out
   rw [Xl t g hx (HTK.out k r c hy hx)] at hA
   have htw:=HTW.out c r
   generalize TW c r=xw at *
   have hh:Js t g c xw=(decide (c.co≤t) && (decide (t < c.cl) && qdh xw.l g)):=by
    unfold Js qdh
    congr 2
    rw [Bool.eq_iff_iff]
    simp
   rw [hh] at hA
   clear hP hQ hx hy hh
   obtain ⟨fr,tw,co,cl,se⟩:=c
   unfold cvC at hwo
   simp only at *
   generalize OF ⟨fr,tw,co,cl,se⟩=of at *
   have HWO2:=Lib.hid hwo
   have HWY2:=Lib.hid hwy
   clear hwo hwy
   go_upto_region 6 with fail
   obtain ⟨U,hU⟩:∃U,wr.alloc (Obj.cells #[.int .i64 fr,.int .i64 tw,.int .i64 co,.int .i64 cl,.int .i64 se] 52)=U:=⟨_,rfl⟩
   have hBU:Below wr.heap.size wr U:=by subst hU;go_grown
   have e0:U.cell? ⟨wr.heap.size,0,none⟩=some (.int .i64 fr):=by subst hU;go_cell
   have e1:U.cell? ⟨wr.heap.size,1,none⟩=some (.int .i64 tw):=by subst hU;go_cell
   have e2:U.cell? ⟨wr.heap.size,2,none⟩=some (.int .i64 co):=by subst hU;go_cell
   have e3:U.cell? ⟨wr.heap.size,3,none⟩=some (.int .i64 cl):=by subst hU;go_cell
   have e4:U.cell? ⟨wr.heap.size,4,none⟩=some (.int .i64 se):=by subst hU;go_cell
   rw [hU]
   clear hU c0 c1 c2 c3 c4
   have k0:=qb _ hBU k0
   have k1:=qb _ hBU k1
   have k2:=qb _ hBU k2
   have k3:=qb _ hBU k3
   have k4:=qb _ hBU k4
   have d0:=qb _ hBU d0
   have hBwU:=bcl hBw hBU
   have hBrU:=bcl hBr hBU
   clear hBU
   by_cases hr0:0≤r
   ·have hd0:decide (0≤r)=true:=decide_eq_true hr0
    by_cases h1:co≤t
    ·have hd1:decide (co≤t)=true:=decide_eq_true h1
     by_cases h2:t < cl
     ·have hd2:decide (t < cl)=true:=decide_eq_true h2
      obtain ⟨n,rfl⟩:∃n:Nat,r=n:=⟨r.toNat,by omega⟩
      obtain ⟨ob,oo,x,ha0,hx0,f0,f1,f2,f3,f4,f5⟩:=HWY2.out n (by omega)
      have hxw:xw=x:=by rw [htw,if_neg (by omega),Int.toNat_natCast,List.getD_eq_getElem?_getD,hx0];rfl
      subst hxw
      have hnc:=fun W (hB:Below w.heap.size w W)=>YN xw.a xw.c xw.l g (by omega) f3 W (f1.keep hB)
      rw [hd1,hd2,Bool.true_and,Bool.true_and] at hA
      generalize qdh xw.l g=I at *
      have HNC:=Lib.hid hnc
      have HA:=Lib.hid hA
      have hn0:(n:Int) < (of.ws.length:Int):=by omega
      have hn1:(n:Int)≤(of.c:Int):=by omega
      replace f0:=qb _ hBwU f0
      have hwo:=HWO2.out
      rw [ha0] at hwo
      have HWC:=Lib.hid hwo
      clear hwo htw hnc hA f1 f2 f3 ha0 hx0 HWY2 HWO2
      generalize of.ws.length=qn at *
      generalize of.c=qc at *
      obtain ⟨xl,xa,xc⟩:=xw
      simp only at *
      generalize xl.length=xn at *
      refine wp_region_held_drew (S:=(RHL [(⟨gb,go+k,none⟩,.int .i64 n),(⟨wr.heap.size,0,none⟩,.int .i64 fr),(⟨wr.heap.size,1,none⟩,.int .i64 tw),(⟨wr.heap.size,2,none⟩,.int .i64 co),(⟨wr.heap.size,3,none⟩,.int .i64 cl),(⟨wr.heap.size,4,none⟩,.int .i64 se),(⟨w.heap.size,0,none⟩,x0),(⟨w.heap.size,1,none⟩,x1),(⟨w.heap.size,2,none⟩,x2),(⟨w.heap.size,3,none⟩,.slice ha hs.length hc),(⟨w.heap.size,4,none⟩,.slice (some ⟨b,o,none⟩) cs.length cc),(⟨ob,oo+n,none⟩,.slice xa xn xc)] U)) (by kernel_rfl) (by exact RHL.drew ⟨d0,e0,e1,e2,e3,e4,k0,k1,k2,k3,k4,f0,Below.refl _ _⟩) (fun hHeld=>?_)
      (refine tk 0 ?_;try simp only [zs,Act.put])
      (refine tk 1 ?_;try simp only [zs,Act.put])
      (refine tk 2 ?_;try simp only [zs,Act.put])
      (refine tk 3 ?_;try simp only [zs,Act.put])
      (refine tk 4 ?_;try simp only [zs,Act.put])
      (refine tk 5 ?_;try simp only [zs,Act.put])
      (refine tk 6 ?_;try simp only [zs,Act.put])
      (refine tk 7 ?_;try simp only [zs,Act.put])
      (refine tk 8 ?_;try simp only [zs,Act.put])
      (refine tk 9 ?_;try simp only [zs,Act.put])
      (refine tk 10 ?_;try simp only [zs,Act.put])
      (refine tk 11 ?_;try simp only [zs,Act.put])
      (refine tk 12 ?_;try simp only [zs,Act.put])
      (refine tk 13 ?_;try simp only [zs,Act.put])
      (refine tk 14 ?_;try simp only [zs,Act.put])
      (refine tk 15 ?_;try simp only [zs,Act.put])
      (refine tk 16 ?_;try simp only [zs,Act.put])
      (refine tk 17 ?_;try simp only [zs,Act.put])
      (refine tk 18 ?_;try simp only [zs,Act.put])
      (refine tk 19 ?_;try simp only [zs,Act.put])
      (refine tk 21 ?_;try simp only [zs,Act.put])
      (refine tk 22 ?_;try simp only [zs,Act.put])
      (refine tk 23 ?_;try simp only [zs,Act.put])
      (refine tk 24 ?_;try simp only [zs,Act.put])
      (refine tk 27 ?_;try simp only [zs,Act.put])
      refine wpAnyH_ready (rs:=[20]) (by kernel_rfl) (by simp) ?_;refine AllReadyH.cons rfl (fun K hK=>?_) AllReadyH.nil;go_simp;go_wp2_with (go_at_call 21;(with_reducible refine (HWC.out _ (bcl hBwU (RHL.bel hHeld))).mono ?_);rintro e X5 ⟨rfl,hB5⟩);refine hK.out _ _ (by exact RHL.call hHeld hB5) (fun hHeldN=>?_);clear hK K hHeld;have hHeld:=hHeldN;clear hHeldN;try simp only [zs,Act.put]
      (refine tk 25 ?_;try simp only [zs,Act.put])
      (refine tk 26 ?_;try simp only [zs,Act.put])
      refine wpAnyH_ready (rs:=[28]) (by kernel_rfl) (by simp) ?_;refine AllReadyH.cons rfl (fun K hK=>?_) AllReadyH.nil;go_simp;go_wp2_with (go_at_call 94;(with_reducible refine (HNC.out _ (bcl hBwU (RHL.bel hHeld))).mono ?_);rintro e X6 ⟨rfl,rfl⟩);refine hK.out _ _ (by exact hHeld) (fun hHeldN=>?_);clear hK K hHeld;have hHeld:=hHeldN;clear hHeldN;try simp only [zs,Act.put]
      (refine tk 29 ?_;try simp only [zs,Act.put])
      refine wpAnyH_done (by kernel_rfl) ?_ _;try simp only [zs,Act.put]
      have hB4:=RHL.bel hHeld
      clear hHeld
      have hBr4:=bcl hBrU hB4
      have hwr:wrap64 (A - 1)=A - 1:=wrap_small (by omega) (by omega)
      cases I with
      | true =>
        go_wp2
        go_roundw
        case rel=>exact ⟨k+1,A - 1,rfl,rfl,by omega,by omega,by omega,hBr4,Lib.hid (by have e:=HA.out;simp at e;clear hwr;omega)⟩
        case measure=>simp [intOf];omega
      | false =>
        go_wp2
        go_roundw
        case rel=>exact ⟨k+1,A,rfl,rfl,by omega,by omega,by omega,hBr4,Lib.hid (by have e:=HA.out;simp at e;clear hwr;omega)⟩
        case measure=>simp [intOf];omega
     ·have hd2:decide (t < cl)=false:=decide_eq_false h2
      have HA:=Lib.hid hA
      clear hA HWO2 HWY2 htw
      refine wp_region_held_drew (S:=(RHL [(⟨gb,go+k,none⟩,.int .i64 r),(⟨wr.heap.size,2,none⟩,.int .i64 co),(⟨wr.heap.size,3,none⟩,.int .i64 cl)] U)) (by kernel_rfl) (by exact RHL.drew ⟨d0,e2,e3,Below.refl _ _⟩) (fun hHeld=>?_)
      (refine tk 0 ?_;try simp only [zs,Act.put])
      (refine tk 1 ?_;try simp only [zs,Act.put])
      (refine tk 2 ?_;try simp only [zs,Act.put])
      (refine tk 3 ?_;try simp only [zs,Act.put])
      (refine tk 4 ?_;try simp only [zs,Act.put])
      (refine tk 5 ?_;try simp only [zs,Act.put])
      (refine tk 6 ?_;try simp only [zs,Act.put])
      (refine tk 7 ?_;try simp only [zs,Act.put])
      (refine tk 8 ?_;try simp only [zs,Act.put])
      (refine tk 9 ?_;try simp only [zs,Act.put])
      (refine tk 10 ?_;try simp only [zs,Act.put])
      (refine tk 11 ?_;try simp only [zs,Act.put])
      (refine tk 12 ?_;try simp only [zs,Act.put])
      (refine tk 13 ?_;try simp only [zs,Act.put])
      (refine tk 14 ?_;try simp only [zs,Act.put])
      (refine tk 15 ?_;try simp only [zs,Act.put])
      (refine tk 16 ?_;try simp only [zs,Act.put])
      (refine tk 17 ?_;try simp only [zs,Act.put])
      (refine wpAnyH_take (i:=18) (v:=undef) rfl (by kernel_rfl) (by kernel_rfl) (by kernel_rfl) (fun _ _ _ h=>h) (Or.inr ⟨by kernel_rfl,rfl⟩) (by assumption) ?_;try simp only [zs,Act.put])
      (refine wpAnyH_take (i:=19) (v:=undef) rfl (by kernel_rfl) (by kernel_rfl) (by kernel_rfl) (fun _ _ _ h=>h) (Or.inr ⟨by kernel_rfl,rfl⟩) (by assumption) ?_;try simp only [zs,Act.put])
      (refine wpAnyH_take (i:=20) (v:=undef) rfl (by kernel_rfl) (by kernel_rfl) (by kernel_rfl) (fun _ _ _ h=>h) (Or.inr ⟨by kernel_rfl,rfl⟩) (by assumption) ?_;try simp only [zs,Act.put])
      (refine wpAnyH_take (i:=21) (v:=undef) rfl (by kernel_rfl) (by kernel_rfl) (by kernel_rfl) (fun _ _ _ h=>h) (Or.inr ⟨by kernel_rfl,rfl⟩) (by assumption) ?_;try simp only [zs,Act.put])
      (refine wpAnyH_take (i:=22) (v:=undef) rfl (by kernel_rfl) (by kernel_rfl) (by kernel_rfl) (fun _ _ _ h=>h) (Or.inr ⟨by kernel_rfl,rfl⟩) (by assumption) ?_;try simp only [zs,Act.put])
      (refine wpAnyH_take (i:=23) (v:=undef) rfl (by kernel_rfl) (by kernel_rfl) (by kernel_rfl) (fun _ _ _ h=>h) (Or.inr ⟨by kernel_rfl,rfl⟩) (by assumption) ?_;try simp only [zs,Act.put])
      (refine wpAnyH_take (i:=24) (v:=undef) rfl (by kernel_rfl) (by kernel_rfl) (by kernel_rfl) (fun _ _ _ h=>h) (Or.inr ⟨by kernel_rfl,rfl⟩) (by assumption) ?_;try simp only [zs,Act.put])
      (refine wpAnyH_take (i:=25) (v:=undef) rfl (by kernel_rfl) (by kernel_rfl) (by kernel_rfl) (fun _ _ _ h=>h) (Or.inr ⟨by kernel_rfl,rfl⟩) (by assumption) ?_;try simp only [zs,Act.put])
      (refine wpAnyH_take (i:=26) (v:=undef) rfl (by kernel_rfl) (by kernel_rfl) (by kernel_rfl) (fun _ _ _ h=>h) (Or.inr ⟨by kernel_rfl,rfl⟩) (by assumption) ?_;try simp only [zs,Act.put])
      (refine wpAnyH_take (i:=27) (v:=undef) rfl (by kernel_rfl) (by kernel_rfl) (by kernel_rfl) (fun _ _ _ h=>h) (Or.inr ⟨by kernel_rfl,rfl⟩) (by assumption) ?_;try simp only [zs,Act.put])
      (refine wpAnyH_take (i:=28) (v:=undef) rfl (by kernel_rfl) (by kernel_rfl) (by kernel_rfl) (fun _ _ _ h=>h) (Or.inr ⟨by kernel_rfl,rfl⟩) (by assumption) ?_;try simp only [zs,Act.put])
      (refine tk 29 ?_;try simp only [zs,Act.put])
      refine wpAnyH_done (by kernel_rfl) ?_ _;try simp only [zs,Act.put]
      have hB4:=RHL.bel hHeld
      clear hHeld
      have hBr4:=bcl hBrU hB4
      go_wp2
      go_roundw
      case rel=>exact ⟨k+1,A,rfl,rfl,by omega,by omega,by omega,hBr4,Lib.hid (by have e:=HA.out;rw [hd2] at e;simp at e;omega)⟩
      case measure=>simp [intOf];omega
    ·have hd1:decide (co≤t)=false:=decide_eq_false h1
     have HA:=Lib.hid hA
     clear hA HWO2 HWY2 htw
     refine wp_region_held_drew (S:=(RHL [(⟨gb,go+k,none⟩,.int .i64 r),(⟨wr.heap.size,2,none⟩,.int .i64 co),(⟨wr.heap.size,3,none⟩,.int .i64 cl)] U)) (by kernel_rfl) (by exact RHL.drew ⟨d0,e2,e3,Below.refl _ _⟩) (fun hHeld=>?_)
     (refine tk 0 ?_;try simp only [zs,Act.put])
     (refine tk 1 ?_;try simp only [zs,Act.put])
     (refine tk 2 ?_;try simp only [zs,Act.put])
     (refine tk 3 ?_;try simp only [zs,Act.put])
     (refine tk 4 ?_;try simp only [zs,Act.put])
     (refine tk 5 ?_;try simp only [zs,Act.put])
     (refine tk 6 ?_;try simp only [zs,Act.put])
     (refine tk 7 ?_;try simp only [zs,Act.put])
     (refine tk 8 ?_;try simp only [zs,Act.put])
     (refine tk 9 ?_;try simp only [zs,Act.put])
     (refine tk 10 ?_;try simp only [zs,Act.put])
     (refine tk 11 ?_;try simp only [zs,Act.put])
     (refine wpAnyH_take (i:=12) (v:=undef) rfl (by kernel_rfl) (by kernel_rfl) (by kernel_rfl) (fun _ _ _ h=>h) (Or.inr ⟨by kernel_rfl,rfl⟩) (by assumption) ?_;try simp only [zs,Act.put])
     (refine wpAnyH_take (i:=13) (v:=undef) rfl (by kernel_rfl) (by kernel_rfl) (by kernel_rfl) (fun _ _ _ h=>h) (Or.inr ⟨by kernel_rfl,rfl⟩) (by assumption) ?_;try simp only [zs,Act.put])
     (refine wpAnyH_take (i:=14) (v:=undef) rfl (by kernel_rfl) (by kernel_rfl) (by kernel_rfl) (fun _ _ _ h=>h) (Or.inr ⟨by kernel_rfl,rfl⟩) (by assumption) ?_;try simp only [zs,Act.put])
     (refine wpAnyH_take (i:=15) (v:=undef) rfl (by kernel_rfl) (by kernel_rfl) (by kernel_rfl) (fun _ _ _ h=>h) (Or.inr ⟨by kernel_rfl,rfl⟩) (by assumption) ?_;try simp only [zs,Act.put])
     (refine tk 16 ?_;try simp only [zs,Act.put])
     (refine tk 17 ?_;try simp only [zs,Act.put])
     (refine wpAnyH_take (i:=18) (v:=undef) rfl (by kernel_rfl) (by kernel_rfl) (by kernel_rfl) (fun _ _ _ h=>h) (Or.inr ⟨by kernel_rfl,rfl⟩) (by assumption) ?_;try simp only [zs,Act.put])
     (refine wpAnyH_take (i:=19) (v:=undef) rfl (by kernel_rfl) (by kernel_rfl) (by kernel_rfl) (fun _ _ _ h=>h) (Or.inr ⟨by kernel_rfl,rfl⟩) (by assumption) ?_;try simp only [zs,Act.put])
     (refine wpAnyH_take (i:=20) (v:=undef) rfl (by kernel_rfl) (by kernel_rfl) (by kernel_rfl) (fun _ _ _ h=>h) (Or.inr ⟨by kernel_rfl,rfl⟩) (by assumption) ?_;try simp only [zs,Act.put])
     (refine wpAnyH_take (i:=21) (v:=undef) rfl (by kernel_rfl) (by kernel_rfl) (by kernel_rfl) (fun _ _ _ h=>h) (Or.inr ⟨by kernel_rfl,rfl⟩) (by assumption) ?_;try simp only [zs,Act.put])
     (refine wpAnyH_take (i:=22) (v:=undef) rfl (by kernel_rfl) (by kernel_rfl) (by kernel_rfl) (fun _ _ _ h=>h) (Or.inr ⟨by kernel_rfl,rfl⟩) (by assumption) ?_;try simp only [zs,Act.put])
     (refine wpAnyH_take (i:=23) (v:=undef) rfl (by kernel_rfl) (by kernel_rfl) (by kernel_rfl) (fun _ _ _ h=>h) (Or.inr ⟨by kernel_rfl,rfl⟩) (by assumption) ?_;try simp only [zs,Act.put])
     (refine wpAnyH_take (i:=24) (v:=undef) rfl (by kernel_rfl) (by kernel_rfl) (by kernel_rfl) (fun _ _ _ h=>h) (Or.inr ⟨by kernel_rfl,rfl⟩) (by assumption) ?_;try simp only [zs,Act.put])
     (refine wpAnyH_take (i:=25) (v:=undef) rfl (by kernel_rfl) (by kernel_rfl) (by kernel_rfl) (fun _ _ _ h=>h) (Or.inr ⟨by kernel_rfl,rfl⟩) (by assumption) ?_;try simp only [zs,Act.put])
     (refine wpAnyH_take (i:=26) (v:=undef) rfl (by kernel_rfl) (by kernel_rfl) (by kernel_rfl) (fun _ _ _ h=>h) (Or.inr ⟨by kernel_rfl,rfl⟩) (by assumption) ?_;try simp only [zs,Act.put])
     (refine wpAnyH_take (i:=27) (v:=undef) rfl (by kernel_rfl) (by kernel_rfl) (by kernel_rfl) (fun _ _ _ h=>h) (Or.inr ⟨by kernel_rfl,rfl⟩) (by assumption) ?_;try simp only [zs,Act.put])
     (refine wpAnyH_take (i:=28) (v:=undef) rfl (by kernel_rfl) (by kernel_rfl) (by kernel_rfl) (fun _ _ _ h=>h) (Or.inr ⟨by kernel_rfl,rfl⟩) (by assumption) ?_;try simp only [zs,Act.put])
     (refine tk 29 ?_;try simp only [zs,Act.put])
     refine wpAnyH_done (by kernel_rfl) ?_ _;try simp only [zs,Act.put]
     have hB4:=RHL.bel hHeld
     clear hHeld
     have hBr4:=bcl hBrU hB4
     go_wp2
     go_roundw
     case rel=>exact ⟨k+1,A,rfl,rfl,by omega,by omega,by omega,hBr4,Lib.hid (by have e:=HA.out;rw [hd1] at e;simp at e;omega)⟩
     case measure=>simp [intOf];omega
   ·have hd0:decide (0≤r)=false:=decide_eq_false hr0
    have hxw:xw=Qd:=by rw [htw,if_pos (by omega)]
    rw [hxw] at hA
    have hI:qdh Qd.l g=false:=rfl
    rw [hI,Bool.and_false,Bool.and_false] at hA
    have HA:=Lib.hid hA
    clear hA HWO2 HWY2 htw hI
    refine wp_region_held_drew (S:=(RHL [(⟨gb,go+k,none⟩,.int .i64 r),(⟨wr.heap.size,2,none⟩,.int .i64 co),(⟨wr.heap.size,3,none⟩,.int .i64 cl)] U)) (by kernel_rfl) (by exact RHL.drew ⟨d0,e2,e3,Below.refl _ _⟩) (fun hHeld=>?_)
    (refine tk 0 ?_;try simp only [zs,Act.put])
    (refine tk 1 ?_;try simp only [zs,Act.put])
    (refine tk 2 ?_;try simp only [zs,Act.put])
    (refine tk 3 ?_;try simp only [zs,Act.put])
    (refine tk 4 ?_;try simp only [zs,Act.put])
    (refine tk 5 ?_;try simp only [zs,Act.put])
    (refine wpAnyH_take (i:=6) (v:=undef) rfl (by kernel_rfl) (by kernel_rfl) (by kernel_rfl) (fun _ _ _ h=>h) (Or.inr ⟨by kernel_rfl,rfl⟩) (by assumption) ?_;try simp only [zs,Act.put])
    (refine wpAnyH_take (i:=7) (v:=undef) rfl (by kernel_rfl) (by kernel_rfl) (by kernel_rfl) (fun _ _ _ h=>h) (Or.inr ⟨by kernel_rfl,rfl⟩) (by assumption) ?_;try simp only [zs,Act.put])
    (refine wpAnyH_take (i:=8) (v:=undef) rfl (by kernel_rfl) (by kernel_rfl) (by kernel_rfl) (fun _ _ _ h=>h) (Or.inr ⟨by kernel_rfl,rfl⟩) (by assumption) ?_;try simp only [zs,Act.put])
    (refine wpAnyH_take (i:=9) (v:=undef) rfl (by kernel_rfl) (by kernel_rfl) (by kernel_rfl) (fun _ _ _ h=>h) (Or.inr ⟨by kernel_rfl,rfl⟩) (by assumption) ?_;try simp only [zs,Act.put])
    (refine tk 10 ?_;try simp only [zs,Act.put])
    (refine tk 11 ?_;try simp only [zs,Act.put])
    (refine wpAnyH_take (i:=12) (v:=undef) rfl (by kernel_rfl) (by kernel_rfl) (by kernel_rfl) (fun _ _ _ h=>h) (Or.inr ⟨by kernel_rfl,rfl⟩) (by assumption) ?_;try simp only [zs,Act.put])
    (refine wpAnyH_take (i:=13) (v:=undef) rfl (by kernel_rfl) (by kernel_rfl) (by kernel_rfl) (fun _ _ _ h=>h) (Or.inr ⟨by kernel_rfl,rfl⟩) (by assumption) ?_;try simp only [zs,Act.put])
    (refine wpAnyH_take (i:=14) (v:=undef) rfl (by kernel_rfl) (by kernel_rfl) (by kernel_rfl) (fun _ _ _ h=>h) (Or.inr ⟨by kernel_rfl,rfl⟩) (by assumption) ?_;try simp only [zs,Act.put])
    (refine wpAnyH_take (i:=15) (v:=undef) rfl (by kernel_rfl) (by kernel_rfl) (by kernel_rfl) (fun _ _ _ h=>h) (Or.inr ⟨by kernel_rfl,rfl⟩) (by assumption) ?_;try simp only [zs,Act.put])
    (refine tk 16 ?_;try simp only [zs,Act.put])
    (refine tk 17 ?_;try simp only [zs,Act.put])
    (refine wpAnyH_take (i:=18) (v:=undef) rfl (by kernel_rfl) (by kernel_rfl) (by kernel_rfl) (fun _ _ _ h=>h) (Or.inr ⟨by kernel_rfl,rfl⟩) (by assumption) ?_;try simp only [zs,Act.put])
    (refine wpAnyH_take (i:=19) (v:=undef) rfl (by kernel_rfl) (by kernel_rfl) (by kernel_rfl) (fun _ _ _ h=>h) (Or.inr ⟨by kernel_rfl,rfl⟩) (by assumption) ?_;try simp only [zs,Act.put])
    (refine wpAnyH_take (i:=20) (v:=undef) rfl (by kernel_rfl) (by kernel_rfl) (by kernel_rfl) (fun _ _ _ h=>h) (Or.inr ⟨by kernel_rfl,rfl⟩) (by assumption) ?_;try simp only [zs,Act.put])
    (refine wpAnyH_take (i:=21) (v:=undef) rfl (by kernel_rfl) (by kernel_rfl) (by kernel_rfl) (fun _ _ _ h=>h) (Or.inr ⟨by kernel_rfl,rfl⟩) (by assumption) ?_;try simp only [zs,Act.put])
    (refine wpAnyH_take (i:=22) (v:=undef) rfl (by kernel_rfl) (by kernel_rfl) (by kernel_rfl) (fun _ _ _ h=>h) (Or.inr ⟨by kernel_rfl,rfl⟩) (by assumption) ?_;try simp only [zs,Act.put])
    (refine wpAnyH_take (i:=23) (v:=undef) rfl (by kernel_rfl) (by kernel_rfl) (by kernel_rfl) (fun _ _ _ h=>h) (Or.inr ⟨by kernel_rfl,rfl⟩) (by assumption) ?_;try simp only [zs,Act.put])
    (refine wpAnyH_take (i:=24) (v:=undef) rfl (by kernel_rfl) (by kernel_rfl) (by kernel_rfl) (fun _ _ _ h=>h) (Or.inr ⟨by kernel_rfl,rfl⟩) (by assumption) ?_;try simp only [zs,Act.put])
    (refine wpAnyH_take (i:=25) (v:=undef) rfl (by kernel_rfl) (by kernel_rfl) (by kernel_rfl) (fun _ _ _ h=>h) (Or.inr ⟨by kernel_rfl,rfl⟩) (by assumption) ?_;try simp only [zs,Act.put])
    (refine wpAnyH_take (i:=26) (v:=undef) rfl (by kernel_rfl) (by kernel_rfl) (by kernel_rfl) (fun _ _ _ h=>h) (Or.inr ⟨by kernel_rfl,rfl⟩) (by assumption) ?_;try simp only [zs,Act.put])
    (refine wpAnyH_take (i:=27) (v:=undef) rfl (by kernel_rfl) (by kernel_rfl) (by kernel_rfl) (fun _ _ _ h=>h) (Or.inr ⟨by kernel_rfl,rfl⟩) (by assumption) ?_;try simp only [zs,Act.put])
    (refine wpAnyH_take (i:=28) (v:=undef) rfl (by kernel_rfl) (by kernel_rfl) (by kernel_rfl) (fun _ _ _ h=>h) (Or.inr ⟨by kernel_rfl,rfl⟩) (by assumption) ?_;try simp only [zs,Act.put])
    (refine tk 29 ?_;try simp only [zs,Act.put])
    refine wpAnyH_done (by kernel_rfl) ?_ _;try simp only [zs,Act.put]
    have hB4:=RHL.bel hHeld
    clear hHeld
    have hBr4:=bcl hBrU hB4
    go_wp2
    go_roundw
    case rel=>exact ⟨k+1,A,rfl,rfl,by omega,by omega,by omega,hBr4,Lib.hid (by have e:=HA.out;simp at e;omega)⟩
    case measure=>simp [intOf];omega
  ·obtain rfl:k=R.length:=by omega
   have hA:=HE.out
   rw [List.drop_eq_nil_of_le (show kt.length≤R.length by rw [HTL.out];exact Nat.le_refl _),xS] at hA
   have HA:=Lib.hid hA
   clear hA
   go_wp2
   clear HWO HWY HTK HTW HE
   have hU:=HA.out
   rw [Int.sub_zero] at hU
   have hA2:-20≤A:=by omega
   clear HA hA0
   have HU:=Lib.hid hU
   clear hU
   obtain ⟨V0,hV0⟩:∃V,V=wr:=⟨_,rfl⟩
   subst hV0
   go_loopw [14,11] (fun i q wr=>∃(k:Nat) (B:Int),i=.int .i64 k∧q=.int .i64 B∧k≤hs.length∧-20 - 6 * (k:Int)≤B∧B≤100∧Below W.heap.size W wr∧Hid (B - Qg t g (hs.drop k)=A - Qg t g hs)) (fun i _ _=>hs.length - (intOf i).toNat)
   case atStart=>exact ⟨0,A,rfl,rfl,by omega,by omega,by omega,hBr,Lib.hid (by simp)⟩
   case round =>
    clear k0 k1 k2 k3 k4 hBw hz hzW
    obtain ⟨k,B,rfl,rfl,hk,hB0,hB1,hBr,HE⟩:=hrel
    obtain ⟨k0,k1,k2,k3,k4⟩:=H5.out.keep hBr
    have hBw:=bcl hBW hBr
    have hz:=lt_of_cell k0
    have hzW:=hBr.size
    simp only at hz
    by_cases hlt:k < hs.length
    ·obtain ⟨b,o,rfl,hP⟩:=HHS.out (by show 1≤hs.length;omega)
     obtain ⟨h,hx⟩:∃x,hs[k]? = some x:=⟨hs[k],by simp [hlt]⟩
     have hkc:(k:Int)≤(hc:Int):=by omega
     have hkl:(k:Int) < (hs.length:Int):=by omega
     have c0:=qb _ hBw (hP k h hx 0 _ rfl)
     have c1:=qb _ hBw (hP k h hx 1 _ rfl)
     have c2:=qb _ hBw (hP k h hx 2 _ rfl)
     have c3:=qb _ hBw (hP k h hx 3 _ rfl)
     simp only [Nat.add_zero] at c0
     obtain ⟨hm0,hm6⟩:=HMS.out h (List.mem_of_getElem? hx)
     have hA:=HE.out
     rw [Xm t g hx] at hA
     unfold hitH at hA
     clear hP hx
     obtain ⟨hg3,hm,hb,he⟩:=h
     simp only at *
     have hwr:wrap64 (B - hm)=B - hm:=wrap_small (by omega) (by omega)
     have HA:=Lib.hid hA
     clear hA
     by_cases e1:hg3=(g:Int)
     ·subst e1
      by_cases e2:hb≤t
      ·by_cases e3:t < he
       ·go_wp2
        go_roundw
        case rel=>exact ⟨k+1,B - hm,rfl,rfl,by omega,by clear hwr;omega,by clear hwr;omega,by go_grown,Lib.hid (by have e:=HA.out;simp [e2,e3] at e;clear hwr;omega)⟩
        case measure=>simp [intOf];omega
       ·go_wp2
        go_roundw
        case rel=>exact ⟨k+1,B,rfl,rfl,by omega,by clear hwr;omega,by clear hwr;omega,by go_grown,Lib.hid (by have e:=HA.out;simp [e3] at e;clear hwr;omega)⟩
        case measure=>simp [intOf];omega
      ·go_wp2
       go_roundw
       case rel=>exact ⟨k+1,B,rfl,rfl,by omega,by clear hwr;omega,by clear hwr;omega,by go_grown,Lib.hid (by have e:=HA.out;simp [e2] at e;clear hwr;omega)⟩
       case measure=>simp [intOf];omega
     ·have hne:(hg3 == (g:Int))=false:=by simpa using e1
      go_wp2
      go_roundw
      case rel=>exact ⟨k+1,B,rfl,rfl,by omega,by clear hwr;omega,by clear hwr;omega,by go_grown,Lib.hid (by have e:=HA.out;simp [e1] at e;clear hwr;omega)⟩
      case measure=>simp [intOf];omega
    ·obtain rfl:k=hs.length:=by omega
     have hA:=HE.out
     rw [List.drop_eq_nil_of_le (Nat.le_refl hs.length)] at hA
     have hA2:B=A - Qg t g hs:=by have e:Qg t g []=0:=rfl;omega
     have hF:V=max 0 B:=by rw [← HV.out,HU.out.symm,hA2]
     have HF:=Lib.hid hF
     clear hA hA2 hF
     go_wp2
     all_goals
      go_ret
      have e:=HF.out
      exact ⟨congrArg (fun n=>Ending.returned (Value.int .i64 n)) (by omega),hBw⟩
def Jh (D:DayM) (l R:List Int) (n:Nat) (t:Int) (x:WayM):Bool:=x.l.any fun g=>decide (XL D (l.getD g.toNat 0) (R.take n) g.toNat t=0)
theorem qcb {α β:Type}:∀(l:List α) (m:List β) (n:Nat),l.zip (m.take n)=(l.zip m).take n
 | [],_,_=>by simp
 | _ :: _,[],_=>by simp
 | _ :: _,_ :: _,0=>by simp
 | _ :: l,_ :: m,n+1=>by simp [qcb l m n]
theorem Xk (D:DayM) (R:List Int) (n:Nat):zb D (R.take n)=(zb D R).take n:=by unfold zb;rw [qcb,List.map_take]
section
variable {D:DayM} {s:SetM}
theorem qfs (ho:s.order < 0) (c:CalM) (k:Nat):wayK D s c k=(qz D c).ws.getD k Qd:=by
 unfold wayK qbd
 rw [decide_eq_false (by omega)]
 rfl
theorem JL (ho:s.order < 0) (took:List WayM) (c:CalM):∀n k,(yh D s took c n k).2=jc D c (yh D s took c n k).1
 | 0,k=>rfl
 | n+1,k=>by
   unfold yh
   split
   ·exact JL ho took c n (k+1)
   ·unfold jc
    rw [qfs ho]
    simp only
    rw [if_neg (by omega),Int.toNat_natCast]
theorem Xb (ho:s.order < 0) (took:List WayM) (c:CalM):∀n k,(∀j,k≤j→j < k+n→((yh D s took c n k).1 < 0∨(j:Int) < (yh D s took c n k).1)→ZI D s.p took c.co ((qz D c).ws.getD j Qd)=true)∧(0≤(yh D s took c n k).1→ZI D s.p took c.co ((qz D c).ws.getD (yh D s took c n k).1.toNat Qd)=false)
 | 0,k=>⟨fun j h1 h2=>by omega,fun h=>by exact absurd h (by show ¬ (0:Int)≤-1;omega)⟩
 | n+1,k=>by
   unfold yh
   rw [qfs ho]
   obtain ⟨i1,i2⟩:=Xb ho took c n (k+1)
   by_cases hf:ZI D s.p took c.co ((qz D c).ws.getD k Qd)=true
   ·rw [if_pos hf]
    refine ⟨fun j h1 h2 h3=>?_,i2⟩
    rcases Nat.eq_or_lt_of_le h1 with rfl | h1
    ·exact hf
    ·exact i1 j h1 (by omega) h3
   ·rw [if_neg hf]
    refine ⟨fun j h1 h2 h3=>?_,fun _=>?_⟩
    ·simp only at h3;omega
    ·simp only [Int.toNat_natCast];simpa using hf
theorem JM (ho:s.order < 0) (ha:s.away=0):∀(cs:List CalM) (i:Nat) (took:List WayM) (j:Nat) (r:Int) (c:CalM),(zo D s i took cs)[j]? = some r→cs[j]? = some c→r=(yh D s (took ++ ((cs.zip (zo D s i took cs)).map fun x=>jc D x.1 x.2).take j) c (qz D c).ws.length 0).1
 | [],_,_,j,_,_,_,h=>by simp at h
 | x :: cs,i,took,j,r,c,h1,h2=>by
   have hst:jG D s i took x=yh D s took x (qz D x).ws.length 0:=by
    unfold jG jq
    rw [ha,show decide ((0:Int) / 2 ^ i % 2=1)=false by simp]
    rfl
   unfold zo at h1 ⊢
   cases j with
   | zero =>
     simp only [List.getElem?_cons_zero,Option.some.injEq] at h1 h2
     subst h2
     rw [← h1,hst]
     simp
   | succ j =>
     simp only [List.getElem?_cons_succ] at h1 h2
     have:=JM ho ha cs (i+1) _ j r c h1 h2
     rw [this,List.zip_cons_cons,List.map_cons,List.take_succ_cons,List.append_assoc,List.singleton_append]
     simp only [hst,JL ho]
end
section
variable {D:DayM}
theorem freeN_W (l R:List Int) {g:Nat} (hg:g < 4) (t:Int):Zi D (qD l) (zb D R) g t=XL D (l.getD g 0) R g t:=by
 unfold Zi XL
 rw [jQ l hg]
theorem Jq (l R:List Int) (n:Nat) (t:Int) {x:WayM} (hx:∀g∈x.l,0≤g∧g < 4):ZI D (qD l) ((zb D R).take n) t x=Jh D l R n t x:=by
 unfold ZI Jh
 rw [Bool.eq_iff_iff,List.any_eq_true,List.any_eq_true]
 refine exists_congr fun g=>and_congr_right fun hm=>?_
 rw [← Xk,freeN_W l _ (by have:=hx g hm;omega)]
theorem Qj (hz:checkN D=0) (l:List Int) {i:Nat} {r:Int} {c:CalM} (hr:(qA D (setOf (qD l)))[i]? = some r) (hc:D.cs[i]? = some c) :
 (∀(k:Nat) x,(qz D c).ws[k]? = some x→(r < 0∨(k:Int) < r)→Jh D l (qA D (setOf (qD l))) i c.co x=true)∧(∀(k:Nat) x,(qz D c).ws[k]? = some x→r=k→Jh D l (qA D (setOf (qD l))) i c.co x=false):=by
 have hk:=(qM D hz).ks
 have h4:=(qM D hz).gs
 have hb:∀(k:Nat) x,(qz D c).ws[k]? = some x→∀g∈x.l,0≤g∧g < 4:=fun k x hx g hg=>by
  obtain ⟨o,ho,hxo⟩:=Yt D c x (List.mem_of_getElem? hx)
  have:=hk o ho x hxo g hg
  omega
 have h:=JM (D:=D) (s:=setOf (qD l)) (by show (-1:Int) < 0;omega) rfl D.cs 0 [] i r c hr hc
 rw [List.nil_append] at h
 obtain ⟨s1,s2⟩:=Xb (D:=D) (s:=setOf (qD l)) (by show (-1:Int) < 0;omega) ((zb D (qA D (setOf (qD l)))).take i) c (qz D c).ws.length 0
 rw [show (yh D (setOf (qD l)) ((zb D (qA D (setOf (qD l)))).take i) c (qz D c).ws.length 0).1=r from h.symm] at s1 s2
 refine ⟨fun k x hx hrk=>?_,fun k x hx hrk=>?_⟩
 ·rw [← Jq l _ i c.co (hb k x hx)]
  have:=s1 k (Nat.zero_le _) (by have:=(List.getElem?_eq_some_iff.1 hx).1;omega) hrk
  rwa [List.getD_eq_getElem?_getD,hx] at this
 ·rw [← Jq l _ i c.co (hb k x hx)]
  have:=s2 (by omega)
  rwa [hrk,Int.toNat_natCast,List.getD_eq_getElem?_getD,hx] at this
theorem qae {t t' g:Int}:∀(cs:List CalM) (tk:List WayM),(∀(k:Nat) c x,cs[k]? = some c→tk[k]? = some x→Js t g c x=true→Js t' g c x=true)→zZ t g cs tk≤zZ t' g cs tk
 | [],tk,_=>by simp [zZ]
 | c :: cs,[],_=>by simp [zZ]
 | c :: cs,x :: tk,h=>by
   have h1:=qae cs tk fun k c x h1 h2=>h (k+1) c x (by simpa using h1) (by simpa using h2)
   have h0:=h 0 c x rfl rfl
   unfold zZ
   cases e:Js t g c x with
   | false=>simp only [Bool.false_eq_true,if_false];split <;> omega
   | true=>rw [h0 e];omega
theorem qaf (t g:Int):∀(cs:List CalM) (tk:List WayM) (n:Nat) (c:CalM) (x:WayM),cs[n]? = some c→tk[n]? = some x→zZ t g cs (tk.take (n+1))=zZ t g cs (tk.take n)+(if Js t g c x=true then 1 else 0)
 | [],_,_,_,_,h,_=>by simp at h
 | _ :: _,[],_,_,_,_,h=>by simp at h
 | y :: cs,z :: tk,0,c,x,h1,h2=>by
   simp only [List.getElem?_cons_zero,Option.some.injEq] at h1 h2
   subst h1 h2
   simp [zZ,xS]
 | y :: cs,z :: tk,n+1,c,x,h1,h2=>by
   rw [List.take_succ_cons,List.take_succ_cons]
   show (if Js t g y z=true then (1:Int) else 0)+_=(if Js t g y z=true then (1:Int) else 0)+_+_
   rw [qaf t g cs tk n c x (by simpa using h1) (by simpa using h2)]
   omega
theorem Ji (D:DayM):∀(l:List CalM) (last:Int),yX D last l=0→(∀c∈l,last≤c.co)∧∀(i j:Nat) a b,i≤j→l[i]? = some a→l[j]? = some b→a.co≤b.co
 | [],_,_=>⟨fun c h=>(by cases h),fun i j a b _ h=>(by simp at h)⟩
 | c :: l,last,h=>by
   unfold yX at h
   by_cases hc:qak D last c=0
   ·rw [if_neg (by simpa using hc)] at h
    obtain ⟨i1,i2⟩:=Ji D l c.co h
    have hl:last≤c.co:=by
     unfold qak at hc
     split at hc
     ·exact absurd hc (by assumption)
     ·split at hc
      ·cases hc
      ·split at hc
       ·cases hc
       ·omega
    refine ⟨fun x hx=>?_,fun i j a b hij ha hb=>?_⟩
    ·rcases List.mem_cons.1 hx with rfl | hx
     ·exact hl
     ·have:=i1 x hx;omega
    ·cases i with
     | zero =>
       simp only [List.getElem?_cons_zero,Option.some.injEq] at ha
       subst ha
       cases j with
       | zero=>simp only [List.getElem?_cons_zero,Option.some.injEq] at hb;subst hb;exact Int.le_refl _
       | succ j=>exact i1 b (List.mem_of_getElem? (by simpa using hb))
     | succ i =>
       cases j with
       | zero=>omega
       | succ j=>exact i2 i j a b (by omega) (by simpa using ha) (by simpa using hb)
   ·rw [if_pos hc] at h;exact absurd h hc
theorem qad (t g:Int):∀(hs:List HldM),(∀h∈hs,0≤h.m)→0≤Qg t g hs
 | [],_=>Int.le_refl 0
 | h :: hs,H=>by
   have:=qad t g hs fun x hx=>H x (List.mem_cons_of_mem _ hx)
   have:=H h (List.mem_cons_self ..)
   unfold Qg
   split <;> omega
theorem used_le (hz:checkN D=0) (l:List Int) (hl:l.length=D.gs.length) (hp:∀x∈l,0≤x) (t:Int) {g:Nat} (hg:g < l.length):zZ t g D.cs (zb D (qA D (setOf (qD l))))≤l.getD g 0:=by
 have h4:=(qM D hz).gs
 have hms:=(qM D hz).hs
 have hso:∀(i j:Nat) a b,i≤j→D.cs[i]? = some a→D.cs[j]? = some b→a.co≤b.co:=by
  unfold checkN at hz
  have z:∀{a b:Int},(if a≠0 then a else b)=0→a=0∧b=0:=fun {a b} h=>by
   by_cases ha:a=0
   ·rw [if_neg (by simpa using ha)] at h;exact ⟨ha,h⟩
   ·rw [if_pos ha] at h;exact absurd h ha
  have hc:=(z (z (z (z hz).2).2).2).2
  unfold xD at hc
  split at hc
  ·cases hc
  ·exact (Ji D D.cs 0 hc).2
 have hP:=qI D (setOf (qD l))
 have hT:=xQ hP
 obtain ⟨P,hPe⟩:∃P,qA D (setOf (qD l))=P:=⟨_,rfl⟩
 have hx0:0≤l.getD g 0:=by rw [List.getD_eq_getElem?_getD,List.getElem?_eq_getElem hg];exact hp _ (List.getElem_mem hg)
 have H:∀n,n≤D.cs.length→zZ t g D.cs ((zb D P).take n)≤l.getD g 0:=by
  intro n
  induction n with
  | zero=>intro _;rw [List.take_zero,xS];exact hx0
  | succ n ih =>
    intro hn
    have ih:=ih (by omega)
    have hc:D.cs[n]? = some D.cs[n]:=List.getElem?_eq_getElem (by omega)
    have hr:P[n]? = some (P[n]'(by rw [← hPe,hP];omega)):=List.getElem?_eq_getElem _
    generalize D.cs[n]=c at hc
    generalize P[n]'(by rw [← hPe,hP];omega)=r at hr
    have htk:=QT hr hc
    rw [qaf t g D.cs _ n c _ hc htk]
    cases e:Js t g c (jc D c r) with
    | false=>simp only [Bool.false_eq_true,if_false];omega
    | true =>
      rw [if_pos rfl]
      unfold Js at e
      simp only [Bool.and_eq_true,decide_eq_true_eq] at e
      obtain ⟨e1,e2,e3⟩:=e
      have hr0:0≤r:=by
       by_cases h:0≤r
       ·exact h
       ·unfold jc at e3
        rw [if_pos (by omega)] at e3
        cases e3
      obtain ⟨k,rfl⟩:∃k:Nat,r=k:=⟨r.toNat,by omega⟩
      have hw:jc D c k=(qz D c).ws.getD k Qd:=by unfold jc;rw [if_neg (by omega),Int.toNat_natCast]
      rw [hw] at e3
      cases hx:(qz D c).ws[k]? with
      | none=>rw [List.getD_eq_getElem?_getD,hx] at e3;cases e3
      | some x =>
        rw [List.getD_eq_getElem?_getD,hx] at e3
        have hb:=(Qj hz l (by rw [hPe];exact hr) hc).2 k x hx rfl
        rw [hPe] at hb
        have hf:¬ XL D (l.getD g 0) (P.take n) g c.co=0:=fun h0=>by
         have:Jh D l P n c.co x=true:=by
          unfold Jh
          rw [List.any_eq_true]
          exact ⟨g,e3,by simpa using h0⟩
         rw [this] at hb
         cases hb
        unfold XL at hf
        rw [Xk] at hf
        have hh:=qad c.co g D.hs fun h hm=>(hms h hm).1
        have hm:zZ t g D.cs ((zb D P).take n)≤zZ c.co g D.cs ((zb D P).take n):=qae _ _ fun i a y h1 h2 h3=>by
         have hi:i < n:=by
          by_cases h:i < n
          ·exact h
          ·rw [List.getElem?_eq_none (by rw [List.length_take];omega)] at h2;cases h2
         unfold Js at h3 ⊢
         simp only [Bool.and_eq_true,decide_eq_true_eq] at h3 ⊢
         exact ⟨hso i n a c (by omega) h1 hc,by omega,h3.2.2⟩
        omega
 have:=H D.cs.length (Nat.le_refl _)
 rw [hPe] at hT ⊢
 rwa [List.take_of_length_le (by omega)] at this
theorem nextT_in {g:GrpM} {t n:Int} (h:Qc g t=some n):(g.one=t∧g.two=n)∨(g.one=n∧g.two=t):=by
 unfold Qc at h
 split at h
 ·cases h;exact Or.inl ⟨by omega,rfl⟩
 ·split at h
  ·cases h;exact Or.inr ⟨rfl,by omega⟩
  ·cases h
theorem Xp (D:DayM) (tw:Int):∀(l:List Int) (t:Int) (ps:List Int),Qx D tw t ps l=0→t∈ps→l.Nodup∧∀k∈l,∀g,D.gs[k.toNat]? = some g→¬ (g.one∈ps∧g.two∈ps)
 | [],_,_,_,_=>⟨List.nodup_nil,fun k h=>by cases h⟩
 | x :: l,t,ps,h,ht=>by
   unfold Qx at h
   split at h
   ·cases h
   ·split at h
    ·cases h
    ·rename_i g hg
     split at h
     ·cases h
     ·rename_i n hn
      split at h
      ·cases h
      ·rename_i hnp
       obtain ⟨i1,i2⟩:=Xp D tw l n (n :: ps) h (List.mem_cons_self ..)
       have hin:=nextT_in hn
       refine ⟨List.nodup_cons.2 ⟨fun hx=>?_,i1⟩,fun k hk g' hg'=>?_⟩
       ·refine i2 x hx g hg ?_
        rcases hin with ⟨rfl,rfl⟩ | ⟨rfl,rfl⟩
        ·exact ⟨List.mem_cons_of_mem _ ht,List.mem_cons_self ..⟩
        ·exact ⟨List.mem_cons_self ..,List.mem_cons_of_mem _ ht⟩
       ·rcases List.mem_cons.1 hk with rfl | hk
        ·rw [hg] at hg'
         cases hg'
         rcases hin with ⟨rfl,rfl⟩ | ⟨rfl,rfl⟩
         ·exact fun h=>hnp h.2
         ·exact fun h=>hnp h.1
        ·exact fun h=>i2 k hk g' hg' ⟨List.mem_cons_of_mem _ h.1,List.mem_cons_of_mem _ h.2⟩
theorem qfu (hz:checkN D=0):∀o∈D.os,∀x∈o.ws,x.l.Nodup:=by
 have z:∀{a b:Int},(if a≠0 then a else b)=0→a=0∧b=0:=fun {a b} h=>by
  by_cases ha:a=0
  ·rw [if_neg (by simpa using ha)] at h;exact ⟨ha,h⟩
  ·rw [if_pos ha] at h;exact absurd h ha
 unfold checkN at hz
 have ho:=(z (z (z hz).2).2).1
 intro o hm x hx
 unfold yz at ho
 split at ho
 ·cases ho
 obtain ⟨met,e⟩:=xX D D.os [] ho o hm
 unfold qaL at e
 obtain ⟨_,e⟩:=z e
 split at e
 ·cases e
 split at e
 ·cases e
 obtain ⟨j,e⟩:=yG _ _ _ e x hx
 unfold Zt at e
 obtain ⟨e,_⟩:=z e
 unfold Jb at e
 split at e
 ·cases e
 exact (Xp D _ _ _ _ e (List.mem_cons_self ..)).1
def zz (t g:Int):List CalM→List WayM→Int
 | c :: cs,x :: xs=>(if c.co≤t∧t < c.cl then (x.l.count g:Int) else 0)+zz t g cs xs
 | _,_=>0
theorem Xj (t g:Int):∀(cs:List CalM) (tk:List WayM),(∀x∈tk,x.l.Nodup)→zz t g cs tk=zZ t g cs tk
 | [],_,_=>by simp [zz,zZ]
 | _ :: _,[],_=>by simp [zz,zZ]
 | c :: cs,x :: tk,h=>by
   unfold zz zZ
   rw [Xj t g cs tk fun y hy=>h y (List.mem_cons_of_mem _ hy)]
   congr 1
   have hn:=h x (List.mem_cons_self ..)
   unfold Js
   by_cases h1:c.co≤t
   ·by_cases h2:t < c.cl
    ·by_cases h3:g∈x.l
     ·simp [h1,h2,h3,hn.count]
     ·simp [h1,h2,h3,List.count_eq_zero_of_not_mem h3]
    ·simp [h2]
   ·simp [h1]
theorem taken_le (hz:checkN D=0) (l:List Int) (hl:l.length=D.gs.length) (hp:∀x∈l,0≤x) (t:Int) {g:Nat} (hg:g < l.length):zz t g D.cs (zb D (qA D (setOf (qD l))))≤l.getD g 0:=by
 rw [Xj]
 ·exact used_le hz l hl hp t hg
 ·intro x hx
  rcases ZU hx with rfl | ⟨o,ho,hxo⟩
  ·exact List.nodup_nil
  ·exact qfu hz o ho x hxo
end
set_option maxHeartbeats 4000000 in
set_option maxRecDepth 100000 in
theorem busy_any (D:DayM) (l R:List Int) (la ra:Option Addr) (lc rc:Nat) (n:Nat) (c:CalM) (x:WayM) (w:World) (h:DayAt w D) (hs:DaySm D) (hlc:l.length≤20∧l.length≤lc) (hl:qg w 1 encI la l) (hlp:∀x∈l,0≤x∧x≤100) (hR:R.length≤D.cs.length∧R.length≤rc) (hr:qg w 1 encI ra R) (hok:∀(k:Nat) r c,R[k]? = some r→D.cs[k]? = some c→r < (qz D c).ws.length) (hm:∀h∈D.hs,0≤h.m∧h.m≤6)
 (hn:n < R.length) (hc:D.cs[n]? = some c) (hxl:x.l.length≤20∧x.l.length≤x.c) (hx:qg w 1 encI x.a x.l) (hxg:∀g∈x.l,0≤g∧g < l.length) :
 Calls qj 22 #[dv D,.slice la l.length lc,.slice ra R.length rc,.int .i64 n,.slice x.a x.l.length x.c] w fun e w'=>e=.returned (.bool (Jh D l R n c.co x))∧Below w.heap.size w w':=by
 obtain ⟨rb,ro,rfl,_⟩:=hr (by omega)
 have htn:(R.take n).length=n:=by rw [List.length_take];omega
 have hf:=fun (g:Nat) (hg:g < l.length) W (hB:Below w.heap.size w W)=>qaP D l (R.take n) la (some ⟨rb,ro,none⟩) lc rc g c.co W (h.keep hB) hs hlc (hl.keep hB) hlp hg (by rw [htn];exact ⟨by omega,by omega⟩) ((hr.take n).keep hB) (fun k r c h1 h2=>by
  rw [List.getElem?_take] at h1
  split at h1
  ·exact hok k r c h1 h2
  ·cases h1) hm
 simp only [htn] at hf
 obtain ⟨cb,co0,hca,hCP⟩:=h.cs (by omega)
 have c2:=hCP n c hc 2 _ rfl
 have hcs:=hs.cs
 unfold Jh
 obtain ⟨V,hV⟩:∃V:Nat→Int,∀g,XL D (l.getD g 0) (R.take n) g c.co=V g:=⟨_,fun _=>rfl⟩
 simp only [hV] at hf ⊢
 clear hV h hs hl hlp hr hok hm hc hCP htn
 unfold dv at *
 rw [hca] at hf ⊢
 clear hca
 obtain ⟨fr,tw,co,cl,se⟩:=c
 obtain ⟨ts,ta,tc,gs,ga,gc,os,oa,oc,hs,ha,hc,cs,ca,cc⟩:=D
 obtain ⟨xl,xa,xc⟩:=x
 simp only at *
 generalize Value.slice ta ts.length tc=x0 at *
 generalize Value.slice ga gs.length gc=x1 at *
 generalize Value.slice oa os.length oc=x2 at *
 generalize Value.slice ha hs.length hc=x3 at *
 have HF:=Lib.hid hf
 have HX:=Lib.hid hx
 have HXG:=Lib.hid hxg
 clear hf hx hxg
 have hn0:(0:Int)≤(n:Int):=Int.natCast_nonneg n
 have hn1:(n:Int)≤(R.length:Int):=by omega
 have hn2:(n:Int)≤(rc:Int):=by omega
 have hn3:(n:Int) < (cs.length:Int):=by omega
 have hn4:(n:Int)≤(cc:Int):=by omega
 obtain ⟨W,hW⟩:∃W,w.alloc (Obj.cells #[x0,x1,x2,x3,.slice (some ⟨cb,co0,none⟩) cs.length cc] 28)=W:=⟨_,rfl⟩
 have h5:B5 W w.heap.size x0 x1 x2 x3 (.slice (some ⟨cb,co0,none⟩) cs.length cc):=by subst hW;exact B5.new ..
 have hBW:Below w.heap.size w W:=by subst hW;go_grown
 have H5:=Lib.hid h5
 clear h5
 go_enter (sf 22 f22),ntmps22
 go_upto_region 1 with fail
 try rw [hW]
 clear hW
 go_wp2
 go_loopw [11] (fun i wr=>∃k:Nat,i=.int .i64 k∧k≤xl.length∧Below W.heap.size W wr∧Hid ((xl.take k).any (fun g=>decide (V g.toNat=0))=false)) (fun i _=>xl.length - (intOf i).toNat)
 case atStart=>exact ⟨0,rfl,Nat.zero_le _,Below.refl _ _,Lib.hid (by simp)⟩
 case round =>
  obtain ⟨k,rfl,hk,hBr,HN⟩:=hrel
  have hBw:=bcl hBW hBr
  by_cases hlt:k < xl.length
  ·obtain ⟨k0,k1,k2,k3,k4⟩:=H5.out.keep hBr
   obtain ⟨b,o,rfl,hP⟩:=HX.out (by omega)
   obtain ⟨g,hx⟩:∃x,xl[k]? = some x:=⟨xl[k],by simp [hlt]⟩
   have hkc:(k:Int)≤(xc:Int):=by omega
   have hkl:(k:Int) < (xl.length:Int):=by omega
   have c0:=qb _ hBw (hP k g hx 0 _ rfl)
   simp only [Nat.mul_one,Nat.add_zero] at c0
   replace c2:=qb _ hBw c2
   have hg:=HXG.out g (List.mem_of_getElem? hx)
   have HXK:=Lib.hid hx
   clear hP hx
   obtain ⟨m,rfl⟩:∃m:Nat,g=m:=⟨g.toNat,by omega⟩
   have hf:=HF.out m (by omega)
   obtain ⟨v,hv⟩:∃v,V m=v:=⟨_,rfl⟩
   rw [hv] at hf
   have HFM:=Lib.hid hf
   have HV:=Lib.hid hv
   clear hf hv
   go_upto_region 4 with fail
   refine wp_region_held_drew (S:=(RHL [(⟨b,o+k,none⟩,.int .i64 m),(⟨cb,co0+n * 5+2,none⟩,.int .i64 co),(⟨w.heap.size,0,none⟩,x0),(⟨w.heap.size,1,none⟩,x1),(⟨w.heap.size,2,none⟩,x2),(⟨w.heap.size,3,none⟩,x3),(⟨w.heap.size,4,none⟩,.slice (some ⟨cb,co0,none⟩) cs.length cc)] wr)) (by kernel_rfl) (by exact RHL.drew ⟨c0,c2,k0,k1,k2,k3,k4,Below.refl _ _⟩) (fun hHeld=>?_)
   (refine tk 0 ?_;try simp only [zs,Act.put])
   (refine tk 1 ?_;try simp only [zs,Act.put])
   (refine tk 2 ?_;try simp only [zs,Act.put])
   (refine tk 3 ?_;try simp only [zs,Act.put])
   (refine tk 4 ?_;try simp only [zs,Act.put])
   (refine tk 5 ?_;try simp only [zs,Act.put])
   (refine tk 6 ?_;try simp only [zs,Act.put])
   (refine tk 7 ?_;try simp only [zs,Act.put])
   (refine tk 8 ?_;try simp only [zs,Act.put])
   (refine tk 9 ?_;try simp only [zs,Act.put])
   (refine tk 10 ?_;try simp only [zs,Act.put])
   (refine tk 11 ?_;try simp only [zs,Act.put])
   (refine tk 12 ?_;try simp only [zs,Act.put])
   (refine tk 13 ?_;try simp only [zs,Act.put])
   (refine tk 14 ?_;try simp only [zs,Act.put])
   refine wpAnyH_ready (rs:=[15]) (by kernel_rfl) (by simp) ?_;refine AllReadyH.cons rfl (fun K hK=>?_) AllReadyH.nil;go_simp;go_wp2_with (go_at_call 54;(with_reducible refine (HFM.out _ (bcl hBw (RHL.bel hHeld))).mono ?_);rintro e X5 ⟨rfl,hB5⟩);refine hK.out _ _ (by exact RHL.call hHeld hB5) (fun hHeldN=>?_);clear hK K hHeld;have hHeld:=hHeldN;clear hHeldN;try simp only [zs,Act.put]
   (refine tk 16 ?_;try simp only [zs,Act.put])
   refine wpAnyH_done (by kernel_rfl) ?_ _;try simp only [zs,Act.put]
   have hB4:=RHL.bel hHeld
   clear hHeld
   have hBw4:=bcl hBw hB4
   have hBr4:=bcl hBr hB4
   by_cases hv0:v=0
   ·subst hv0
    go_wp2
    go_ret
    exact ⟨by rw [QW _ HXK.out (by simpa using HV.out)];rfl,hBw4⟩
   ·have hne:(v == 0)=false:=by simpa using hv0
    go_wp2
    go_roundw
    case rel=>exact ⟨k+1,rfl,by omega,hBr4,Lib.hid (by rw [any_take_succ _ HXK.out HN.out];simpa [HV.out] using hv0)⟩
    case measure=>simp [intOf];omega
  ·obtain rfl:k=xl.length:=by omega
   have hany:=HN.out
   rw [List.take_length] at hany
   have HA:=Lib.hid hany
   clear hany
   go_wp2
   go_ret
   exact ⟨by rw [HA.out];rfl,hBw⟩
def qdl (W:World) (s n:Nat) (F:Nat→Int):Prop:=∀i,i < n→W.cell? ⟨s,i,none⟩=some (.int .i64 (F i))∧W.frozen? ⟨s,i,none⟩=false
theorem qdl.keep {W w1:World} {s n:Nat} {F:Nat→Int} (h:qdl W s n F) (hB:Below W.heap.size W w1):qdl w1 s n F:=fun i hi=>⟨qb _ hB (h i hi).1,qd _ hB (h i hi).1 (h i hi).2⟩
theorem qdl.set {W:World} {s n k:Nat} {F G:Nat→Int} {y:Int} (h:qdl W s n F) (hk:k < n) (hy:G k=y) (hG:∀i,i≠k→G i=F i):qdl (W.setCell ⟨s,k,none⟩ (.int .i64 y)) s n G:=fun i hi=>by
 obtain ⟨a,b⟩:=h i hi
 by_cases e:i=k
 ·subst e;rw [hy];exact ⟨qp (qB a),by simpa using b⟩
 ·rw [hG i e];exact ⟨qh a (.inr e),by simpa using b⟩
theorem qdl.made (w:World) (n:Nat):qdl (w.alloc (.cells (madeCells #[.int .i64 0] n) 3)) w.heap.size n (fun _=>0):=fun i hi=>by
 have hs:(madeCells #[Value.int .i64 0] n).size=n:=size_madeCells _ _
 have hb:(w.alloc (.cells (madeCells #[.int .i64 0] n) 3)).heap[w.heap.size]? = some (.cells (madeCells #[.int .i64 0] n) 3 (0,0)):=World.alloc_heap_new w _
 refine ⟨?_,?_⟩
 ·unfold World.cell?
  rw [hb]
  have:(madeCells #[Value.int .i64 0] n)[i]? = some (.int .i64 0):=by
   rw [Array.getElem?_eq_getElem (by omega)]
   simp [madeCells,Nat.mod_one]
  simpa using this
 ·unfold World.frozen?
  rw [hb]
  simp
theorem Xi (t g:Int) (cs:List CalM):zz t g cs []=0:=by cases cs <;> rfl
theorem YD (t g:Int):∀(cs:List CalM) (tk:List WayM) (n:Nat) (c:CalM) (x:WayM),cs[n]? = some c→tk[n]? = some x→zz t g cs (tk.take (n+1))=zz t g cs (tk.take n)+(if c.co≤t∧t < c.cl then (x.l.count g:Int) else 0)
 | [],_,_,_,_,h,_=>by simp at h
 | _ :: _,[],_,_,_,_,h=>by simp at h
 | y :: cs,z :: tk,0,c,x,h1,h2=>by
   simp only [List.getElem?_cons_zero,Option.some.injEq] at h1 h2
   subst h1 h2
   simp [zz,Xi]
 | y :: cs,z :: tk,n+1,c,x,h1,h2=>by
   rw [List.take_succ_cons,List.take_succ_cons]
   show (if y.co≤t∧t < y.cl then (z.l.count g:Int) else 0)+_=(if y.co≤t∧t < y.cl then (z.l.count g:Int) else 0)+_+_
   rw [YD t g cs tk n c x (by simpa using h1) (by simpa using h2)]
   omega
theorem qcl {l:List Int} {k:Nat} {x:Int} (h:l[k]? = some x) (g:Int):(l.take (k+1)).count g=(l.take k).count g+(if x=g then 1 else 0):=by
 obtain ⟨hk,rfl⟩:=List.getElem?_eq_some_iff.1 h
 rw [List.take_succ_eq_append_getElem hk,List.count_append,List.count_singleton]
 congr 1
 by_cases e:l[k]=g <;> simp [e]
theorem Xh (t g:Int):∀(cs:List CalM) (tk:List WayM),(∀x∈tk,x.l.length≤20)→0≤zz t g cs tk∧zz t g cs tk≤20 * cs.length
 | [],_,_=>by simp [zz]
 | _ :: _,[],_=>by simp only [zz];omega
 | c :: cs,x :: tk,h=>by
   have:=Xh t g cs tk fun y hy=>h y (List.mem_cons_of_mem _ hy)
   have h1:=h x (List.mem_cons_self ..)
   have h2:=List.count_le_length (a:=g) (l:=x.l)
   unfold zz
   rw [List.length_cons]
   split <;> omega
set_option maxHeartbeats 4000000 in
set_option maxRecDepth 100000 in
theorem Xw (D:DayM) (q:List Int) (qa:Option Addr) (qc:Nat) (time:Int) (hm:0≤time∧time < 256) (w:World) (hG:Globs w) (h:DayAt w D) (hcap:DayCap D) (hq:qg w 1 encU qa q) (hqc:q.length≤qc) (hqb:∀x∈q,0≤x∧x≤65535) :
 Calls qj 4 #[dv D,.slice qa q.length qc,.int .u8 time] w fun e w'=>e=.returned (.bool true):=by
 have hfit:=fun W (hB:Below w.heap.size w W)=>Xu D W (h.keep hB) hcap
 have HRO:=Lib.hid fun W (hB:Below w.heap.size w W)=>jT W (hG.keep hB)
 have hdv:dv D=.agg #[.slice D.ta D.ts.length D.tc,.slice D.ga D.gs.length D.gc,.slice D.oa D.os.length D.oc,.slice D.ha D.hs.length D.hc,.slice D.ca D.cs.length D.cc]:=rfl
 generalize Value.slice D.ta D.ts.length D.tc=x0 at hdv
 generalize Value.slice D.oa D.os.length D.oc=x2 at hdv
 generalize Value.slice D.ha D.hs.length D.hc=x3 at hdv
 obtain ⟨W,hW⟩:∃W,w.alloc (Obj.cells #[x0,.slice D.ga D.gs.length D.gc,x2,x3,.slice D.ca D.cs.length D.cc] 28)=W:=⟨_,rfl⟩
 have h5:B5 W w.heap.size x0 (.slice D.ga D.gs.length D.gc) x2 x3 (.slice D.ca D.cs.length D.cc):=by subst hW;exact B5.new ..
 have hBw:Below w.heap.size w W:=by subst hW;go_grown
 have hzW:W.heap.size=w.heap.size+1:=by subst hW;simp
 cases hf:fitB D with
 | false =>
   rw [hf,hdv] at hfit
   rw [hdv]
   have HF:=Lib.hid hfit
   obtain ⟨k0,k1,k2,k3,k4⟩:=h5
   clear hdv hfit h hcap hq hqb hG hf hzW
   go_enter (sf 4 f4),ntmps4
   go_upto_region 1 with fail
   try rw [hW]
   clear hW
   go_wp2_with (first | (go_at_call 18;(with_reducible refine (HF.out _ hBw).mono ?_);rintro e w1 ⟨rfl,hB1⟩;replace hBw:=bcl hBw hB1) | (go_at_call 8;(with_reducible refine (HRO.out _ hBw).mono ?_);rintro e w2 ⟨rfl,hB2⟩))
   go_ret
   rfl
 | true =>
   obtain ⟨hs,hz⟩:=qaB hf hcap
   rw [hf,hdv] at hfit
   obtain ⟨i0,hi,hz0,hz1,hz2⟩:=info_parts xJ
   have hgl:=(qM D hz).gs
   have hcl:=(qM D hz).cs
   have hch:=fun W (hB:Below w.heap.size w W) k=>QU q qa qc k hqc hqb W (hq.keep hB)
   have HD:=Lib.hid (And.intro h (And.intro hs (And.intro hz (And.intro hG hdv))))
   have hqn:∀k,0≤q.getD k 0:=fun k=>by
    rw [List.getD_eq_getElem?_getD]
    by_cases hk:k < q.length
    ·rw [List.getElem?_eq_getElem hk]
     exact (hqb _ (List.getElem_mem hk)).1
    ·rw [List.getElem?_eq_none (by omega)]
     exact Int.le_refl 0
   have HQN:=Lib.hid hqn
   have HCH:=Lib.hid hch
   have HF:=Lib.hid hfit
   have H5:=Lib.hid h5
   rw [hdv]
   obtain ⟨k0,k1,k2,k3,k4⟩:=h5
   clear hdv hfit hcap hq hqb hG hf h hs hz hqn hch
   go_enter (sf 4 f4),ntmps4
   go_upto_region 1 with fail
   try rw [hW]
   clear hW
   go_upto_region 5 with (go_at_call 18;(with_reducible refine (HF.out _ hBw).mono ?_);rintro e W1 ⟨rfl,hB1⟩)
   have HB1:=Lib.hid hB1
   replace k1:=qb _ hB1 k1
   have hBw1:=bcl hBw hB1
   clear HF k0 k2 k3 k4 hB1
   have hzW1:w.heap.size < W1.heap.size:=lt_of_cell k1
   go_loopw [8,7] (fun i u wr=>∃(k:Nat) (v:Value),i=.int .i64 k∧v=u∧k≤D.gs.length∧Hid (Below W1.heap.size W1 wr)∧Hid (wr.ownsRow W1.heap.size 3 1 v (zy q 10 k).length ((zy q 10 k).map (.int .i64)))) (fun i _ _=>D.gs.length - (intOf i).toNat)
   case atStart=>exact ⟨0,_,rfl,rfl,by omega,Lib.hid (Below.refl _ _),Lib.hid (World.ownsRow_nil _ _ _ _)⟩
   case round =>
    obtain ⟨k,v,rfl,rfl,hk,HB,HO⟩:=hrel
    replace k1:=qb _ HB.out k1
    have hsz:=HB.out.size
    by_cases hlt:k < D.gs.length
    ·have hki:(k:Int) < (D.gs.length:Int):=by omega
     have hk0:(0:Int)≤(k:Int):=Int.natCast_nonneg k
     have hcc:=HCH.out _ (bcl hBw1 HB.out) k
     have hps:=Qt q 10 k
     have hpl:=yT q 10 k
     have hx0:=HQN.out k
     generalize q.getD k 0=x at *
     have htm:Int.tmod x 10=x % 10:=jY hx0
     have hxr:0≤x % 10∧x % 10 < 10:=⟨by omega,by omega⟩
     obtain ⟨y,hy⟩:∃y,x % 10=y:=⟨_,rfl⟩
     rw [hy] at htm hps hxr
     have HPS:=Lib.hid hps
     have HPL:=Lib.hid hpl
     obtain ⟨L,hL⟩:∃L,zy q 10 k=L:=⟨_,rfl⟩
     rw [hL] at HPS HO HPL
     have hLl:L.length≤20:=by have:=HPL.out;omega
     clear hps hpl hy hL hx0
     go_wp2_with (first | (go_at_call 19;(with_reducible refine hcc.mono ?_);rintro e w2 ⟨rfl,rfl⟩) | (at_builtin;refine wpList_append_own_at _ rfl (.tmp 30) (.tmp 35) 31 rfl W1.heap.size 3 i0 (.int .i64 0) 1 8 ((qx _).trans Tryz.underlying31) hi hz0 hz1 hz2 rfl (by decide) _ _ _ rfl (HO.out.alloc _) ⟨wr.heap.size,0,none⟩ 1 1 [.int .i64 y] rfl rfl (cell_one_new _ _ _) (xV y) (by unfold maxLen;omega) (by omega) (by simp;omega) ?_;intro v1 w3 n1 y1 nil1 at1))
     have y2:(wr.alloc (.cells #[.int .i64 y] 3)).grownBy w3 v.ownBlock:=y1
     have hB3:Below W1.heap.size W1 w3:=HB.out.trans (((Mod.below ((Below.refl _ wr).alloc (Nat.le_refl _) _)).trans (Mod.grown (S:=fun b=>v.ownBlock=some b) y2 (fun b e=>e))).keep hsz (fun b hb=>(HO.out.lt b hb).1))
     go_roundw
     case rel =>
      refine ⟨k+1,v1,rfl,rfl,by omega,Lib.hid hB3,Lib.hid ?_⟩
      rw [HPS.out]
      simp only [List.length_append,List.length_cons,List.length_nil,Nat.zero_add,List.map_append,List.map_cons,List.map_nil]
      exact n1
     case measure=>simp [intOf];omega
    ·obtain rfl:k=D.gs.length:=by omega
     obtain ⟨la,lc,rfl,hlc,hlr⟩:=yH HO.out
     have hpl:=yT q 10 D.gs.length
     have hpb:∀x∈zy q 10 D.gs.length,0≤x∧x≤9:=fun x hx=>by
      unfold zy at hx
      obtain ⟨i,_,rfl⟩:=List.mem_map.1 hx
      omega
     generalize zy q 10 D.gs.length=L at *
     have hBy:=bcl hBw1 HB.out
     have hBW:=bcl HB1.out HB.out
     have hd:=HD.out.1.keep hBy
     obtain ⟨_,hs,hz,hG,hdv⟩:=HD.out
     have hpd:=jF D L la lc wr hd hs (hG.keep hBy) (QK hz hpl hpb) (by omega) hlc hlr
     rw [hdv] at hpd
     obtain ⟨P,hP⟩:∃P,qA D (setOf (qD L))=P:=⟨_,rfl⟩
     have hPl:=qI D (setOf (qD L))
     have hfw:=fun (i:Nat) r c h1 h2=>Qj hz L (i:=i) (r:=r) (c:=c) h1 h2
     have hok:=fun (i:Nat) r c h1 h2=>(XW D (setOf (qD L)) (k:=i) (r:=r) (c:=c) h1 h2).1
     have htk:=fun t (g:Nat) (hg:g < L.length)=>taken_le hz L hpl (fun x hx=>(hpb x hx).1) t hg
     rw [hP] at hpd hPl hfw hok htk
     have htm:Int.tmod time 100=time % 100:=jY hm.1
     obtain ⟨T,hT⟩:∃T,time % 100=T:=⟨_,rfl⟩
     rw [hT] at htm
     have hwm:IntKind.i64.wrap time=time:=by rw [IntKind.wrap_i64];omega
     have HPD:=Lib.hid hpd
     have hcap:∀k,∀x∈(zb D P).take k,x.l.length≤20:=fun k x hx=>by
      rcases ZU (List.mem_of_mem_take hx) with rfl | ⟨o,ho,hxo⟩
      ·exact Nat.zero_le _
      ·exact (hs.ls o ho x hxo).1
     have HX:=Lib.hid (And.intro hPl (And.intro hfw (And.intro hok (And.intro (fun g hg=>htk T (g:=g) hg) hcap))))
     have HL:=Lib.hid (And.intro hpl (And.intro hlc (And.intro hlr hpb)))
     have HB2:=Lib.hid (And.intro hBy hBW)
     replace k1:=(H5.out.keep hBW).2
     obtain ⟨k0,-,k2,k3,k4⟩:=H5.out.keep hBW
     clear HO HB hk hlt HCH HQN hsz hd hpd hPl hfw hok htk hcap hpl hlc hlr hpb hs hz hG hdv hP hT hBy hBW hzW1
     go_upto_region 9 with (go_at_call 20;(with_reducible refine HPD.out.mono ?_);intro e V hQ;obtain ⟨hB5,pa,pc,he,hpc,hpr⟩:=hQ;subst he;replace k1:=qb _ hB5 k1)
     have HQ:=Lib.hid (And.intro hpc (And.intro hpr hB5))
     have hmk:=qbG (w:=V) (n:=D.gs.length) (by omega)
     have hBZ:=(Below.refl V.heap.size V).alloc (Nat.le_refl _) (.cells (madeCells #[.int .i64 0] D.gs.length) 3)
     have hro:=qdl.made V D.gs.length
     obtain ⟨Z,hZ⟩:∃W,V.alloc (.cells (madeCells #[.int .i64 0] D.gs.length) 3)=W:=⟨_,rfl⟩
     rw [hZ] at hmk hBZ hro
     have HZ:=Lib.hid (And.intro hro hBZ)
     have hBwV:=bcl HB2.out.1 hB5
     have HV:=Lib.hid (And.intro (H5.out.keep (bcl HB2.out.2 hB5)) (And.intro (HD.out.1.keep hBwV) (And.intro hpr (And.intro (HL.out.2.2.1.keep hB5) hBwV))))
     clear HPD hpc hpr hB5 hro hBZ hZ k0 k2 k3 k4
     go_upto_region 14 with fail
     clear hmk htm hwm k1
     go_loopw [13] (fun i wr=>∃k:Nat,i=.int .i64 k∧k≤D.cs.length∧Hid (Below V.heap.size Z wr)∧Hid (qdl wr V.heap.size D.gs.length (fun g=>zz T g D.cs ((zb D P).take k)))) (fun i _=>D.cs.length - (intOf i).toNat)
     case atStart=>exact ⟨0,rfl,Nat.zero_le _,Lib.hid (Below.refl _ _),Lib.hid (by simpa [Xi] using HZ.out.1)⟩
     case round =>
      obtain ⟨k,rfl,hk,HB,HR⟩:=hrel
      obtain ⟨U,hU⟩:∃U,U=wr:=⟨_,rfl⟩
      subst hU
      have hBV:Below V.heap.size V U:=HZ.out.2.trans HB.out
      by_cases hlt:k < D.cs.length
      ·obtain ⟨⟨k0,k1,k2,k3,k4⟩,hd,hpr,hlr,hBwV⟩:=HV.out
       obtain ⟨c,hx⟩:∃x,D.cs[k]? = some x:=⟨_,List.getElem?_eq_getElem hlt⟩
       obtain ⟨r,hr⟩:∃r,P[k]? = some r:=⟨_,List.getElem?_eq_getElem (by rw [HX.out.1];exact hlt)⟩
       obtain ⟨cb,co0,hca,hCP⟩:=hd.cs (by omega)
       have hkc:(k:Int)≤(D.cc:Int):=by have:=HD.out.2.1.cs.2;omega
       have hkp:(k:Int)≤(pc:Int):=by have:=HQ.out.1;omega
       have hkl:(k:Int) < (D.cs.length:Int):=by omega
       have c0:=hCP k c hx 0 _ rfl
       have c1:=hCP k c hx 1 _ rfl
       have c2:=hCP k c hx 2 _ rfl
       have c3:=hCP k c hx 3 _ rfl
       have c4:=hCP k c hx 4 _ rfl
       obtain ⟨_,hs,hz,hG,hdv⟩:=HD.out
       rw [hca] at k4 hdv
       have hwo:=fun W (hB:Below V.heap.size V W)=>xZ D c W (hd.keep hB) hs
       have hbu:=fun x (W:World) (hB:Below V.heap.size V W)=>busy_any D L P la pa lc pc k c x W (hd.keep hB) hs ⟨by have:=HL.out.1;omega,HL.out.2.1⟩ (hlr.keep hB) (fun x hx=>by have:=HL.out.2.2.2 x hx;omega) ⟨by rw [HX.out.1];exact Nat.le_refl _,by rw [HX.out.1];exact HQ.out.1⟩ (hpr.keep hB) HX.out.2.2.1 (qM D hz).hs (by rw [HX.out.1];exact hlt) hx
       rw [HX.out.1] at hbu
       rw [hdv] at hwo hbu
       obtain ⟨hf1,hf2⟩:=HX.out.2.1 k r c hr hx
       have hrl:=HX.out.2.2.1 k r c hr hx
       have hway:=fun (n:Nat) (hn:n < (qz D c).ws.length)=>way_at hd hs (c:=c) hn
       have hgk:∀(n:Nat) x,(qz D c).ws[n]? = some x→∀g∈x.l,0≤g∧g < L.length:=fun n x hn g hg=>by
        obtain ⟨o,ho,hxo⟩:=Yt D c x (List.mem_of_getElem? hn)
        have:=(qM D hz).ks o ho x hxo g hg
        have:=HL.out.1
        omega
       have hts:=fun (g:Nat)=>YD T g D.cs (zb D P) k c _ hx (QT hr hx)
       have htw:jc D c r=if r < 0 then Qd else (qz D c).ws.getD r.toNat Qd:=rfl
       obtain ⟨gb,go,hpa,hQP⟩:=hpr (by rw [HX.out.1];omega)
       have d0:=hQP k r hr 0 _ rfl
       subst hpa
       simp only [Nat.mul_one,Nat.add_zero] at c0 d0
       unfold Zu cvC at hwo
       clear hd hs hz hG hdv hca hCP hQP hx hr hpr hlr
       generalize qz D c=O at *
       generalize jc D c r=TW at *
       obtain ⟨fr,tw,co,cl,se⟩:=c
       obtain ⟨ofr,oto,ows,oa,oc⟩:=O
       simp only at *
       have HWO:=Lib.hid hwo
       have HBU:=Lib.hid hbu
       have HF:=Lib.hid (And.intro hf1 hf2)
       have HWY:=Lib.hid (And.intro hway hgk)
       have HTS:=Lib.hid hts
       have HTW:=Lib.hid htw
       have HC:=Lib.hid (And.intro k0 (And.intro k1 (And.intro k2 (And.intro k3 (And.intro k4 (And.intro c2 (And.intro c3 d0)))))))
       replace k0:=qb _ hBV k0
       replace k1:=qb _ hBV k1
       replace k2:=qb _ hBV k2
       replace k3:=qb _ hBV k3
       replace k4:=qb _ hBV k4
       replace c0:=qb _ hBV c0
       replace c1:=qb _ hBV c1
       replace c2:=qb _ hBV c2
       replace c3:=qb _ hBV c3
       replace c4:=qb _ hBV c4
       clear hwo hbu hf1 hf2 hway hgk hts htw d0 hBwV
       go_upto_region 16 with fail
       refine wp_region_held_drew (S:=(RHL [(⟨w.heap.size,0,none⟩,x0),(⟨w.heap.size,1,none⟩,.slice D.ga D.gs.length D.gc),(⟨w.heap.size,2,none⟩,x2),(⟨w.heap.size,3,none⟩,x3),(⟨w.heap.size,4,none⟩,.slice (some ⟨cb,co0,none⟩) D.cs.length D.cc),(⟨cb,co0+k * 5,none⟩,.int .i64 fr),(⟨cb,co0+k * 5+1,none⟩,.int .i64 tw),(⟨cb,co0+k * 5+2,none⟩,.int .i64 co),(⟨cb,co0+k * 5+3,none⟩,.int .i64 cl),(⟨cb,co0+k * 5+4,none⟩,.int .i64 se)] U)) (by kernel_rfl) (by exact RHL.drew ⟨k0,k1,k2,k3,k4,c0,c1,c2,c3,c4,Below.refl _ _⟩) (fun hHeld=>?_)
       (refine tk 0 ?_;try simp only [zs,Act.put])
       (refine tk 1 ?_;try simp only [zs,Act.put])
       (refine tk 2 ?_;try simp only [zs,Act.put])
       (refine tk 3 ?_;try simp only [zs,Act.put])
       (refine tk 4 ?_;try simp only [zs,Act.put])
       (refine tk 5 ?_;try simp only [zs,Act.put])
       refine wpAnyH_ready (rs:=[6]) (by kernel_rfl) (by simp) ?_;refine AllReadyH.cons rfl (fun K hK=>?_) AllReadyH.nil;go_simp;go_wp2_with (go_at_call 21;(with_reducible refine (HWO.out _ (bcl hBV (RHL.bel hHeld))).mono ?_);rintro e X5 ⟨rfl,hB5⟩);refine hK.out _ _ (by exact RHL.call hHeld hB5) (fun hHeldN=>?_);clear hK K hHeld;have hHeld:=hHeldN;clear hHeldN;try simp only [zs,Act.put]
       (refine tk 7 ?_;try simp only [zs,Act.put])
       refine wpAnyH_done (by kernel_rfl) ?_ _;try simp only [zs,Act.put]
       have hB4:=RHL.bel hHeld
       clear hHeld HWO k0 k1 k2 k3 k4 c0 c1 c2 c3 c4
       by_cases hr0:r < 0
       ·go_wp2
        go_loopw [15] (fun i wr=>∃n:Nat,i=.int .i64 n∧n≤ows.length∧Hid (Below U.heap.size U wr)) (fun i _=>ows.length - (intOf i).toNat)
        case atStart=>exact ⟨0,rfl,Nat.zero_le _,Lib.hid hB4⟩
        case round =>
         clear hB4
         obtain ⟨n,rfl,hn,HI⟩:=hrel
         have hBi:=bcl hBV HI.out
         have d0:=qb _ hBi HC.out.2.2.2.2.2.2.2
         by_cases hlt2:n < ows.length
         ·obtain ⟨ob,oo,x,rfl,hx0,f0,f1,f2,f3,f4,f5⟩:=HWY.out.1 n hlt2
          have hb:=HF.out.1 n x hx0 (Or.inl hr0)
          have hbc:=fun (W:World) (hB:Below V.heap.size V W)=>HBU.out x W hB ⟨f2,f3⟩ (f1.keep hB) (HWY.out.2 n x hx0)
          simp only [hb] at hbc
          have HBC:=Lib.hid hbc
          have k0:=qb _ hBi HC.out.1
          have k1:=qb _ hBi HC.out.2.1
          have k2:=qb _ hBi HC.out.2.2.1
          have k3:=qb _ hBi HC.out.2.2.2.1
          have k4:=qb _ hBi HC.out.2.2.2.2.1
          replace f0:=qb _ hBi f0
          have hn1:(n:Int) < (ows.length:Int):=by omega
          have hn2:(n:Int)≤(oc:Int):=by omega
          clear hb hbc f1 f2 f3 hx0
          have hr1:¬ 0≤r:=by omega
          have hr2:decide (0≤r)=false:=decide_eq_false hr1
          go_upto_region 21 with fail
          refine wp_region_held_drew (S:=(RHL [(⟨w.heap.size,0,none⟩,x0),(⟨w.heap.size,1,none⟩,.slice D.ga D.gs.length D.gc),(⟨w.heap.size,2,none⟩,x2),(⟨w.heap.size,3,none⟩,x3),(⟨w.heap.size,4,none⟩,.slice (some ⟨cb,co0,none⟩) D.cs.length D.cc),(⟨ob,oo+n,none⟩,.slice x.a x.l.length x.c)] wr)) (by kernel_rfl) (by exact RHL.drew ⟨k0,k1,k2,k3,k4,f0,Below.refl _ _⟩) (fun hHeld=>?_)
          (refine tk 0 ?_;try simp only [zs,Act.put])
          (refine tk 1 ?_;try simp only [zs,Act.put])
          (refine tk 2 ?_;try simp only [zs,Act.put])
          (refine tk 3 ?_;try simp only [zs,Act.put])
          (refine tk 4 ?_;try simp only [zs,Act.put])
          (refine tk 5 ?_;try simp only [zs,Act.put])
          (refine tk 6 ?_;try simp only [zs,Act.put])
          (refine tk 7 ?_;try simp only [zs,Act.put])
          refine wpAnyH_ready (rs:=[8]) (by kernel_rfl) (by simp) ?_;refine AllReadyH.cons rfl (fun K hK=>?_) AllReadyH.nil;go_simp;go_wp2_with (go_at_call 22;(with_reducible refine (HBC.out _ (bcl hBi (RHL.bel hHeld))).mono ?_);rintro e X5 ⟨rfl,hB5⟩);refine hK.out _ _ (by exact RHL.call hHeld hB5) (fun hHeldN=>?_);clear hK K hHeld;have hHeld:=hHeldN;clear hHeldN;try simp only [zs,Act.put]
          (refine tk 9 ?_;try simp only [zs,Act.put])
          refine wpAnyH_done (by kernel_rfl) ?_ _;try simp only [zs,Act.put]
          have hBj:=bcl HI.out (RHL.bel hHeld)
          clear hHeld k0 k1 k2 k3 k4 f0 d0
          go_wp2
          go_roundw
          case rel=>exact ⟨n+1,rfl,by omega,Lib.hid hBj⟩
          case measure=>simp [intOf];omega
         ·obtain rfl:n=ows.length:=by omega
          go_wp2
          go_roundw
          case rel =>
           refine ⟨k+1,rfl,by omega,Lib.hid (Below.call HB.out HI.out HZ.out.2.size),Lib.hid ?_⟩
           have e:(fun g:Nat=>zz T g D.cs ((zb D P).take (k+1)))=fun g:Nat=>zz T g D.cs ((zb D P).take k):=funext fun g=>by rw [HTS.out g,HTW.out,if_pos hr0];simp [Qd]
           rw [e]
           exact HR.out.keep HI.out
          case measure=>simp [intOf];omega
       ·obtain ⟨m,rfl⟩:∃m:Nat,r=m:=⟨r.toNat,by omega⟩
        have hml:m < ows.length:=by omega
        obtain ⟨ob,oo,x,rfl,hx0,f0,f1,f2,f3,f4,f5⟩:=HWY.out.1 m hml
        have hxw:=HTW.out
        rw [if_neg hr0,Int.toNat_natCast,List.getD_eq_getElem?_getD,hx0] at hxw
        have hbx:=HF.out.2 m x hx0 rfl
        have hbc:=fun (W:World) (hB:Below V.heap.size V W)=>HBU.out x W hB ⟨f2,f3⟩ (f1.keep hB) (HWY.out.2 m x hx0)
        simp only [hbx] at hbc
        have HXB:=Lib.hid (And.intro hbc (And.intro hxw (And.intro f1 (And.intro (HWY.out.2 m x hx0) f0))))
        have hm1:(m:Int) < (ows.length:Int):=by omega
        have hm2:(m:Int)≤(oc:Int):=by omega
        have hm3:¬ (m:Int) < 0:=hr0
        have hm4:(0:Int)≤(m:Int):=Int.natCast_nonneg m
        clear hxw hbx hbc hx0 f0 f1 hrl hr0 HTW
        go_wp2
        go_loopw [15] (fun i wr=>∃n:Nat,i=.int .i64 n∧n≤m∧Hid (Below U.heap.size U wr)) (fun i _=>m - (intOf i).toNat)
        case atStart=>exact ⟨0,rfl,Nat.zero_le _,Lib.hid hB4⟩
        case round =>
         clear hB4
         obtain ⟨n,rfl,hn,HI⟩:=hrel
         have hBi:=bcl hBV HI.out
         have d0:=qb _ hBi HC.out.2.2.2.2.2.2.2
         have k0:=qb _ hBi HC.out.1
         have k1:=qb _ hBi HC.out.2.1
         have k2:=qb _ hBi HC.out.2.2.1
         have k3:=qb _ hBi HC.out.2.2.2.1
         have k4:=qb _ hBi HC.out.2.2.2.2.1
         by_cases hlt2:n < m
         ·obtain ⟨ob1,oo1,y,e1,hy0,f0,f1,f6,f7,f8,f9⟩:=HWY.out.1 n (by omega)
          cases e1
          have hb:=HF.out.1 n y hy0 (Or.inr (by omega))
          have hbc:=fun (W:World) (hB:Below V.heap.size V W)=>HBU.out y W hB ⟨f6,f7⟩ (f1.keep hB) (HWY.out.2 n y hy0)
          simp only [hb] at hbc
          have HBC:=Lib.hid hbc
          replace f0:=qb _ hBi f0
          have hn1:(n:Int) < (ows.length:Int):=by omega
          have hn2:(n:Int)≤(oc:Int):=by omega
          have hn3:¬ (m:Int)≤(n:Int):=by omega
          clear hb hbc f1 f6 f7 f8 f9 hy0
          go_upto_region 21 with fail
          refine wp_region_held_drew (S:=(RHL [(⟨w.heap.size,0,none⟩,x0),(⟨w.heap.size,1,none⟩,.slice D.ga D.gs.length D.gc),(⟨w.heap.size,2,none⟩,x2),(⟨w.heap.size,3,none⟩,x3),(⟨w.heap.size,4,none⟩,.slice (some ⟨cb,co0,none⟩) D.cs.length D.cc),(⟨ob,oo+n,none⟩,.slice y.a y.l.length y.c)] wr)) (by kernel_rfl) (by exact RHL.drew ⟨k0,k1,k2,k3,k4,f0,Below.refl _ _⟩) (fun hHeld=>?_)
          (refine tk 0 ?_;try simp only [zs,Act.put])
          (refine tk 1 ?_;try simp only [zs,Act.put])
          (refine tk 2 ?_;try simp only [zs,Act.put])
          (refine tk 3 ?_;try simp only [zs,Act.put])
          (refine tk 4 ?_;try simp only [zs,Act.put])
          (refine tk 5 ?_;try simp only [zs,Act.put])
          (refine tk 6 ?_;try simp only [zs,Act.put])
          (refine tk 7 ?_;try simp only [zs,Act.put])
          refine wpAnyH_ready (rs:=[8]) (by kernel_rfl) (by simp) ?_;refine AllReadyH.cons rfl (fun K hK=>?_) AllReadyH.nil;go_simp;go_wp2_with (go_at_call 22;(with_reducible refine (HBC.out _ (bcl hBi (RHL.bel hHeld))).mono ?_);rintro e X5 ⟨rfl,hB5⟩);refine hK.out _ _ (by exact RHL.call hHeld hB5) (fun hHeldN=>?_);clear hK K hHeld;have hHeld:=hHeldN;clear hHeldN;try simp only [zs,Act.put]
          (refine tk 9 ?_;try simp only [zs,Act.put])
          refine wpAnyH_done (by kernel_rfl) ?_ _;try simp only [zs,Act.put]
          have hBj:=bcl HI.out (RHL.bel hHeld)
          clear hHeld k0 k1 k2 k3 k4 f0 d0
          go_wp2
          go_roundw
          case rel=>exact ⟨n+1,rfl,by omega,Lib.hid hBj⟩
          case measure=>simp [intOf];omega
         ·obtain rfl:n=m:=by omega
          have f0:=qb _ hBi HXB.out.2.2.2.2
          have HBC:=Lib.hid HXB.out.1
          have hn3:(n:Int)≤(n:Int):=Int.le_refl _
          have hn4:¬ (n:Int) < 0:=by omega
          have hn5:decide ((n:Int) < 0)=false:=decide_eq_false hn4
          go_upto_region 24 with fail
          refine wp_region_held_drew (S:=(RHL [(⟨w.heap.size,0,none⟩,x0),(⟨w.heap.size,1,none⟩,.slice D.ga D.gs.length D.gc),(⟨w.heap.size,2,none⟩,x2),(⟨w.heap.size,3,none⟩,x3),(⟨w.heap.size,4,none⟩,.slice (some ⟨cb,co0,none⟩) D.cs.length D.cc),(⟨gb,go+k,none⟩,.int .i64 n),(⟨ob,oo+n,none⟩,.slice x.a x.l.length x.c)] wr)) (by kernel_rfl) (by exact RHL.drew ⟨k0,k1,k2,k3,k4,d0,f0,Below.refl _ _⟩) (fun hHeld=>?_)
          (refine tk 0 ?_;try simp only [zs,Act.put])
          (refine tk 1 ?_;try simp only [zs,Act.put])
          (refine tk 2 ?_;try simp only [zs,Act.put])
          (refine tk 3 ?_;try simp only [zs,Act.put])
          (refine tk 4 ?_;try simp only [zs,Act.put])
          (refine tk 5 ?_;try simp only [zs,Act.put])
          (refine tk 6 ?_;try simp only [zs,Act.put])
          (refine tk 7 ?_;try simp only [zs,Act.put])
          (refine tk 8 ?_;try simp only [zs,Act.put])
          (refine tk 9 ?_;try simp only [zs,Act.put])
          (refine tk 10 ?_;try simp only [zs,Act.put])
          refine wpAnyH_ready (rs:=[11]) (by kernel_rfl) (by simp) ?_;refine AllReadyH.cons rfl (fun K hK=>?_) AllReadyH.nil;go_simp;go_wp2_with (go_at_call 22;(with_reducible refine (HBC.out _ (bcl hBi (RHL.bel hHeld))).mono ?_);rintro e X5 ⟨rfl,hB5⟩);refine hK.out _ _ (by exact RHL.call hHeld hB5) (fun hHeldN=>?_);clear hK K hHeld;have hHeld:=hHeldN;clear hHeldN;try simp only [zs,Act.put]
          refine wpAnyH_done (by kernel_rfl) ?_ _;try simp only [zs,Act.put]
          have hBj:=bcl HI.out (RHL.bel hHeld)
          have HBj:=Lib.hid (Below.call HB.out hBj HZ.out.2.size)
          have HRj:=Lib.hid (HR.out.keep hBj)
          clear hHeld k0 k1 k2 k3 k4 f0 d0 HBC HBU HF HWY hBi hBj HI hn hlt2 hn3
          go_wp2
          go_loopw [16] (fun i wr=>∃m:Nat,i=.int .i64 m∧m≤x.l.length∧Hid (Below V.heap.size Z wr)∧Hid (qdl wr V.heap.size D.gs.length (fun g=>zz T g D.cs ((zb D P).take k)+if co≤T∧T < cl then ((x.l.take m).count (g:Int):Int) else 0))) (fun i _=>x.l.length - (intOf i).toNat)
          case atStart=>exact ⟨0,rfl,Nat.zero_le _,HBj,Lib.hid (by simpa using HRj.out)⟩
          case round =>
           clear HBj HRj HB HR
           obtain ⟨m,rfl,hm,HB,HR⟩:=hrel
           have hBi:Below V.heap.size V wr:=HZ.out.2.trans HB.out
           have d0:=qb _ hBi HC.out.2.2.2.2.2.2.2
           have k4:=qb _ hBi HC.out.2.2.2.2.1
           have c2:=qb _ hBi HC.out.2.2.2.2.2.1
           have c3:=qb _ hBi HC.out.2.2.2.2.2.2.1
           have f0:=qb _ hBi HXB.out.2.2.2.2
           by_cases hlt2:m < x.l.length
           ·obtain ⟨g,hg⟩:∃g,x.l[m]? = some g:=⟨_,List.getElem?_eq_getElem hlt2⟩
            have hgl:=HXB.out.2.2.2.1 g (List.mem_of_getElem? hg)
            obtain ⟨g,rfl⟩:∃n:Nat,g=n:=⟨g.toNat,by omega⟩
            obtain ⟨xb,xo,hxa,hXP⟩:=HXB.out.2.2.1 (by omega)
            have e0:=hXP m _ hg 0 _ rfl
            simp only [Nat.mul_one,Nat.add_zero] at e0
            replace e0:=qb _ hBi e0
            have hct:=qcl hg
            have hm1:(m:Int) < (x.l.length:Int):=by omega
            have hm2:(m:Int)≤(x.c:Int):=by omega
            have hgG:g < D.gs.length:=by have:=HL.out.1;omega
            have hg1:(g:Int) < (D.gs.length:Int):=by omega
            rw [hxa] at f0
            clear hXP hg hgl hxa
            by_cases h1:co≤T
            ·by_cases h2:T < cl
             ·obtain ⟨a0,b0⟩:=HR.out g hgG
              have hcap:=Xh T g D.cs ((zb D P).take k) (HX.out.2.2.2.2 k)
              have hcl2:=List.count_le_length (a:=(g:Int)) (l:=x.l.take m)
              rw [List.length_take] at hcl2
              have HCT:=Lib.hid hct
              dsimp only at a0
              rw [if_pos ⟨h1,h2⟩] at a0
              obtain ⟨v,hv⟩:∃v,zz T g D.cs ((zb D P).take k)+((x.l.take m).count (g:Int):Int)=v:=⟨_,rfl⟩
              have hwr:wrap64 (v+1)=v+1:=wrap_small (by omega) (by omega)
              rw [hv] at a0
              have HVV:=Lib.hid hv
              clear hv hcap hcl2 hct
              go_wp2
              go_roundw
              case rel =>
               refine ⟨m+1,rfl,by omega,Lib.hid (HB.out.setCell (p:=⟨V.heap.size,g,none⟩) (Nat.le_refl _) _),Lib.hid (HR.out.set hgG ?_ fun i hi=>?_)⟩
               ·show zz T g D.cs ((zb D P).take k)+(if co≤T∧T < cl then ((x.l.take (m+1)).count (g:Int):Int) else 0)=v+1
                rw [if_pos ⟨h1,h2⟩,HCT.out,if_pos rfl,← HVV.out];clear hwr;omega
               ·show zz T i D.cs ((zb D P).take k)+(if co≤T∧T < cl then ((x.l.take (m+1)).count (i:Int):Int) else 0)=_
                rw [HCT.out,if_neg (show ¬ (g:Int)=(i:Int) by clear hwr;omega),Nat.add_zero]
              case measure=>simp [intOf];omega
             ·have e:¬ (co≤T∧T < cl):=fun h=>h2 h.2
              have HE:=Lib.hid e
              clear e hct
              go_wp2
              go_roundw
              case rel=>exact ⟨m+1,rfl,by omega,HB,Lib.hid (by have h:=HR.out;simp only [if_neg HE.out] at h ⊢;exact h)⟩
              case measure=>simp [intOf];omega
            ·have e:¬ (co≤T∧T < cl):=fun h=>h1 h.1
             have HE:=Lib.hid e
             clear e hct
             go_wp2
             go_roundw
             case rel=>exact ⟨m+1,rfl,by omega,HB,Lib.hid (by have h:=HR.out;simp only [if_neg HE.out] at h ⊢;exact h)⟩
             case measure=>simp [intOf];omega
           ·obtain rfl:m=x.l.length:=by omega
            go_wp2
            go_roundw
            case rel =>
             refine ⟨k+1,rfl,by omega,HB,Lib.hid ?_⟩
             have e:(fun g:Nat=>zz T g D.cs ((zb D P).take (k+1)))=fun g:Nat=>zz T g D.cs ((zb D P).take k)+if co≤T∧T < cl then ((x.l.take x.l.length).count (g:Int):Int) else 0:=funext fun g=>by rw [HTS.out g,HXB.out.2.1,List.take_length];rfl
             rw [e]
             exact HR.out
            case measure=>simp [intOf];omega
      ·obtain rfl:k=D.cs.length:=by omega
       have hR:=HR.out
       rw [show (zb D P).take D.cs.length=zb D P from List.take_of_length_le (by rw [xQ HX.out.1];exact Nat.le_refl _)] at hR
       have HR2:=Lib.hid hR
       clear hR HR
       go_wp2
       go_loopw [18] (fun i wr=>∃n:Nat,i=.int .i64 n∧n≤D.gs.length∧Below U.heap.size U wr) (fun i _=>D.gs.length - (intOf i).toNat)
       case atStart=>exact ⟨0,rfl,Nat.zero_le _,Below.refl _ _⟩
       case round =>
        obtain ⟨n,rfl,hn,hBi⟩:=hrel
        have hBv:=bcl hBV hBi
        by_cases hlt2:n < D.gs.length
        ·obtain ⟨a0,b0⟩:=(HR2.out.keep hBi) n hlt2
         have hln:n < L.length:=by rw [HL.out.1];exact hlt2
         have hle:=HX.out.2.2.2.1 n hln
         obtain ⟨v,hv⟩:∃v,L[n]? = some v:=⟨_,List.getElem?_eq_getElem hln⟩
         rw [List.getD_eq_getElem?_getD,hv] at hle
         obtain ⟨lb,lo,rfl,hLP⟩:=HV.out.2.2.2.1 (by omega)
         have l0:=qb _ hBv (hLP n v hv 0 _ rfl)
         simp only [Nat.mul_one,Nat.add_zero] at l0
         have hlc:=HL.out.2.1
         have hll:=HL.out.1
         have hn1:(n:Int) < (L.length:Int):=by omega
         have hn2:(n:Int)≤(lc:Int):=by omega
         have hn3:(n:Int) < (D.gs.length:Int):=by omega
         dsimp only at a0
         generalize zz T n D.cs (zb D P)=u at *
         simp only [Option.getD_some] at hle
         have HLE:=Lib.hid hle
         clear hle hLP hv hln hlc hll
         go_upto_region 35 with fail
         have hle:¬ v < u:=by have:=HLE.out;omega
         have hd:decide (v < u)=false:=decide_eq_false hle
         refine wp_region_held_drew (S:=(RHL [(⟨V.heap.size,n,none⟩,.int .i64 u),(⟨lb,lo+n,none⟩,.int .i64 v)] wr)) (by kernel_rfl) (by exact RHL.drew ⟨a0,l0,Below.refl _ _⟩) (fun hHeld=>?_)
         (refine tk 0 ?_;try simp only [zs,Act.put])
         (refine tk 1 ?_;try simp only [zs,Act.put])
         (refine tk 2 ?_;try simp only [zs,Act.put])
         (refine tk 3 ?_;try simp only [zs,Act.put])
         (refine tk 4 ?_;try simp only [zs,Act.put])
         (refine tk 5 ?_;try simp only [zs,Act.put])
         (refine tk 6 ?_;try simp only [zs,Act.put])
         (refine tk 7 ?_;try simp only [zs,Act.put])
         (refine tk 8 ?_;try simp only [zs,Act.put])
         refine wpAnyH_done (by kernel_rfl) ?_ _;try simp only [zs,Act.put]
         have hBj:=bcl hBi (RHL.bel hHeld)
         clear hHeld
         go_wp2
         go_roundw
         case rel=>exact ⟨n+1,rfl,by omega,hBj⟩
         case measure=>simp [intOf];omega
        ·obtain rfl:n=D.gs.length:=by omega
         have hBwU:=bcl HV.out.2.2.2.2 hBv
         go_wp2_with (go_at_call 8;(with_reducible refine (HRO.out _ hBwU).mono ?_);rintro e w7 ⟨rfl,hB8⟩)
         go_ret
         rfl
end Go.Proofs.Tryz
