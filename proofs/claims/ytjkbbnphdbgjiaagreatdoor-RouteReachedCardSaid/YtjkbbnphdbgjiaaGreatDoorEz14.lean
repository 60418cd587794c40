/-
  Lemmas about the program and the machine (D11 to D15), upon which the last text of this claim rests; no condition.
-/
import Derived.Test.YtjkbbnphdbgjiaaGreatDoorEz13
set_option linter.unusedSimpArgs false
set_option linter.unusedVariables false
set_option maxRecDepth 100000
set_option maxHeartbeats 4000000
namespace Go.Proofs.Tryz
open Go Go.Load Go.LoadR Go.RowKit
def Yh(D:DayM)(P:Int)(R:List Int)(g:Nat)(t:Int):Int:=max 0 (P-Xw t g D.cs (xx D R)-ZN t g D.hs)
theorem way_at{D:DayM}{w:World}(h:DayAt w D)(hs:DaySm D){c:CalM}{r:Nat}(hr:r<(qK D c).ws.length):∃b o x,(qK D c).a=some ⟨b,o,none⟩/\(qK D c).ws[r]? = some x/\w.cell? ⟨b,o+r,none⟩=some (.slice x.a x.l.length x.c)/\qi w 1 encI x.a x.l/\x.l.length<=20/\x.l.length<=x.c/\(qK D c).ws.length<=20/\(qK D c).ws.length<=(qK D c).c:=by
 have ho:=Yu (D:=D) (c:=c) (by omega);obtain⟨b,o,e,hP⟩:=h.ws _ ho (by omega);have hx:=qM hr;have hm:=qI hx;have c0:=hP r _ hx 0 _ rfl;simp only[Nat.mul_one,Nat.add_zero]at c0;exact⟨b,o,_,e,hx,c0,h.ls _ ho _ hm,(hs.ls _ ho _ hm).1,(hs.ls _ ho _ hm).2,(hs.ws _ ho).1,(hs.ws _ ho).2⟩
theorem Xd(D:DayM)(l R:List Int)(la ra:Option Addr)(lc rc:Nat)(g:Nat)(t:Int)(w:World)(h:DayAt w D)(hs:DaySm D)(hlc:l.length<=20/\l.length<=lc)(hl:qi w 1 encI la l)(hlp:∀x∈l,0<=x/\x<=100)(hg:g<l.length)(hR:R.length<=D.cs.length/\R.length<=rc)(hr:qi w 1 encI ra R)(hok:∀(k:Nat) r c,R[k]? = some r->D.cs[k]? = some c->r<(qK D c).ws.length)(hm:∀h∈D.hs,0<=h.m/\h.m<=6) :
 Calls qp 32 #[dv D,.slice la l.length lc,.slice ra R.length rc,.int .i64 g,.int .i64 t] w fun e w'=>e=.returned (.int .i64 (Yh D (l.getD g 0) R g t))/\Below w.heap.size w w':=by
 obtain⟨lb,lo,rfl,hLP⟩:=hl (by omega);obtain⟨P,hP⟩:∃P,l[g]? = some P:=⟨l[g],qM hg⟩;have hPd:l.getD g 0=P:=by rw[List.getD_eq_getElem?_getD,hP];rfl
 have hPb:=hlp P (qI hP);have l0:=hLP g P hP 0 _ rfl;simp only[Nat.mul_one,Nat.add_zero]at l0;rw[hPd];have HWO:=qd fun c W (hB:Below w.heap.size w W)=>jw D c W (h.keep hB) hs;have HWY:=qd fun(c:CalM) (r:Nat) (hr:r<(qK D c).ws.length)=>way_at h hs hr;obtain⟨V,hV⟩:∃V,Yh D P R g t=V:=⟨_,rfl⟩;rw[hV];unfold Yh at hV;have HTK:=qd fun(k:Nat) (r:Int) (c:CalM) (h1:R[k]? = some r) (h2:D.cs[k]? = some c)=>qaH (D:=D) h1 h2;have htl:(xx D R).length=R.length:=by unfold xx;rw[List.length_map,List.length_zip];omega
 generalize xx D R=kt at *
 have HTL:=qd htl;have HV:=qd hV;have HOK:=qd hok;have HR:=qd hr;have HHS:=qd h.hs;have HCS:=qd h.cs;have HMS:=qd hm;have scs:=hs.cs;have shs:=hs.hs;clear h hs hl hlp hr hok hm hLP hP hPd hV htl;have htw:∀(c:CalM) (r:Int),ZM D c r=if r<0 then Za else(qK D c).ws.getD r.toNat Za:=fun _ _=>rfl;have HTW:=qd htw;clear htw
 unfold dv at *
 unfold ZO at HWO
 generalize qK D=OF at *
 generalize ZM D=TW at *
 obtain⟨ts,ta2,tc2,gs,ga,gc,os,oa,oc2,hs,ha,hc,cs,ca,cc⟩:=D
 simp only at *
 generalize Value.slice ta2 ts.length tc2=x0 at *
 generalize Value.slice ga gs.length gc=x1 at *
 generalize Value.slice oa os.length oc2=x2 at *
 have hg0:(0:Int)<=(g:Int):=Int.natCast_nonneg g;have hg1:(g:Int)<(l.length:Int):=by omega
 have hgc:(g:Int)<=(lc:Int):=by omega
 obtain⟨W,hW⟩:∃W,w.alloc (Obj.cells #[x0,x1,x2,.slice ha hs.length hc,.slice ca cs.length cc] 28)=W:=⟨_,rfl⟩;have h5:B5 W w.heap.size x0 x1 x2 (.slice ha hs.length hc) (.slice ca cs.length cc):=by subst hW;exact B5.new ..
 have hBW:Below w.heap.size w W:=by subst hW;go_grown
 have H5:=qd h5;clear h5;replace l0:=qb _ hBW l0;go_enter (sf 32 f32),ntmps32;go_upto_region 1 with fail;try rw[hW]
 clear hW;go_wp2;go_loopw [12,11] (fun i q wr=>∃(k:Nat) (A:Int),i=.int .i64 k/\q=.int .i64 A/\k<=R.length/\-(k:Int)<=A/\A<=100/\Below W.heap.size W wr/\Hid (A-Xw t g (cs.drop k) (kt.drop k)=P-Xw t g cs kt)) (fun i _ _=>R.length-(intOf i).toNat);case atStart=>exact⟨0,P,rfl,rfl,by omega,by omega,by omega,Below.refl _ _,qd (by simp)⟩
 case round =>
  clear l0;obtain⟨k,A,rfl,rfl,hk,hA0,hA1,hBr,HE⟩:=hrel;obtain⟨k0,k1,k2,k3,k4⟩:=H5.out.keep hBr;have hBw:=bcl hBW hBr;have hz:=lt_of_cell k0;have hzW:=hBr.size;simp only at hz;by_cases hlt:k<R.length
  ·obtain⟨b,o,rfl,hP⟩:=HCS.out (by show 1<=cs.length;omega);obtain⟨c,hx⟩:∃x,cs[k]? = some x:=⟨cs[k]'(by omega),by simp⟩;obtain⟨r,hy⟩:∃x,R[k]? = some x:=⟨R[k],by simp[hlt]⟩;obtain⟨gb,go,rfl,hQ⟩:=HR.out (by omega);have hkc:(k:Int)<=(cc:Int):=(by omega);have hkl:(k:Int)<(cs.length:Int):=(by omega);have hkt:(k:Int)<=(rc:Int):=(by omega);have hkR:(k:Int)<(R.length:Int):=(by omega);have c0:=qb _ hBw (hP k c hx 0 _ rfl);have c1:=qb _ hBw (hP k c hx 1 _ rfl);have c2:=qb _ hBw (hP k c hx 2 _ rfl);have c3:=qb _ hBw (hP k c hx 3 _ rfl);have c4:=qb _ hBw (hP k c hx 4 _ rfl);have d0:=qb _ hBw (hQ k r hy 0 _ rfl);simp only[Nat.mul_one,Nat.add_zero]at c0 d0;have hwo:=HWO.out c;have hwy:=HWY.out c;have hrk:=HOK.out k r c hy hx;have hA:=HE.out;rw[XR t g hx (HTK.out k r c hy hx)]at hA;have htw:=HTW.out c r
   generalize TW c r=xw at *
   have hh:hitC t g c xw=(decide (c.co<=t)&&(decide (t<c.cl)&&Jn xw.l g)):=by
    unfold hitC Jn;congr 2;rw[Bool.eq_iff_iff];simp
   rw[hh]at hA;clear hP hQ hx hy hh;obtain⟨fr,tw,co,cl,se⟩:=c;unfold cvC at hwo
   simp only at *
   generalize OF ⟨fr,tw,co,cl,se⟩=of at *
   have HWO2:=qd hwo;have HWY2:=qd hwy;clear hwo hwy;go_upto_region 6 with fail;obtain⟨U,hU⟩:∃U,wr.alloc (Obj.cells #[.int .i64 fr,.int .i64 tw,.int .i64 co,.int .i64 cl,.int .i64 se] 99)=U:=⟨_,rfl⟩;have hBU:Below wr.heap.size wr U:=(by subst hU;go_grown);have e0:U.cell? ⟨wr.heap.size,0,none⟩=some (.int .i64 fr):=(by subst hU;go_cell);have e1:U.cell? ⟨wr.heap.size,1,none⟩=some (.int .i64 tw):=(by subst hU;go_cell);have e2:U.cell? ⟨wr.heap.size,2,none⟩=some (.int .i64 co):=(by subst hU;go_cell);have e3:U.cell? ⟨wr.heap.size,3,none⟩=some (.int .i64 cl):=(by subst hU;go_cell);have e4:U.cell? ⟨wr.heap.size,4,none⟩=some (.int .i64 se):=(by subst hU;go_cell);rw[hU];clear hU c0 c1 c2 c3 c4;have k0:=qb _ hBU k0;have k1:=qb _ hBU k1;have k2:=qb _ hBU k2;have k3:=qb _ hBU k3;have k4:=qb _ hBU k4;have d0:=qb _ hBU d0;have hBwU:=bcl hBw hBU;have hBrU:=bcl hBr hBU;clear hBU;by_cases hr0:0<=r
   ·have hd0:decide (0<=r)=true:=decide_eq_true hr0;by_cases h1:co<=t
    ·have hd1:decide (co<=t)=true:=decide_eq_true h1;by_cases h2:t<cl
     ·have hd2:decide (t<cl)=true:=decide_eq_true h2;obtain⟨n,rfl⟩:∃n:Nat,r=n:=⟨r.toNat,by omega⟩;obtain⟨ob,oo,x,ha0,hx0,f0,f1,f2,f3,f4,f5⟩:=HWY2.out n (by omega);have hxw:xw=x:=(by rw[htw,if_neg (by omega),Int.toNat_natCast,List.getD_eq_getElem?_getD,hx0];rfl);subst hxw;have hnc:=fun W (hB:Below w.heap.size w W)=>xV xw.a xw.c xw.l g (by omega) f3 W (f1.keep hB);rw[hd1,hd2,Bool.true_and,Bool.true_and]at hA
      generalize Jn xw.l g=I at *
      have HNC:=qd hnc;have HA:=qd hA;have hn0:(n:Int)<(of.ws.length:Int):=(by omega);have hn1:(n:Int)<=(of.c:Int):=(by omega);replace f0:=qb _ hBwU f0;have hwo:=HWO2.out;rw[ha0]at hwo;have HWC:=qd hwo;clear hwo htw hnc hA f1 f2 f3 ha0 hx0 HWY2 HWO2
      generalize of.ws.length=qn at *
      generalize of.c=qc at *
      obtain⟨xl,xa,xc⟩:=xw
      simp only at *
      generalize xl.length=xn at *
      refine wp_region_held_drew (S:=(RHL [(⟨gb,go+k,none⟩,.int .i64 n),(⟨wr.heap.size,0,none⟩,.int .i64 fr),(⟨wr.heap.size,1,none⟩,.int .i64 tw),(⟨wr.heap.size,2,none⟩,.int .i64 co),(⟨wr.heap.size,3,none⟩,.int .i64 cl),(⟨wr.heap.size,4,none⟩,.int .i64 se),(⟨w.heap.size,0,none⟩,x0),(⟨w.heap.size,1,none⟩,x1),(⟨w.heap.size,2,none⟩,x2),(⟨w.heap.size,3,none⟩,.slice ha hs.length hc),(⟨w.heap.size,4,none⟩,.slice (some ⟨b,o,none⟩) cs.length cc),(⟨ob,oo+n,none⟩,.slice xa xn xc)] U)) (by kernel_rfl) (by exact RHL.drew ⟨d0,e0,e1,e2,e3,e4,k0,k1,k2,k3,k4,f0,Below.refl _ _⟩) (fun hHeld=>?_);refine tk 0 ?_;refine tk 1 ?_;refine tk 2 ?_;refine tk 3 ?_;refine tk 4 ?_;refine tk 5 ?_;refine tk 6 ?_;refine tk 7 ?_;refine tk 8 ?_;refine tk 9 ?_;refine tk 10 ?_;refine tk 11 ?_;refine tk 12 ?_;refine tk 13 ?_;refine tk 14 ?_;refine tk 15 ?_;refine tk 16 ?_;refine tk 17 ?_;refine tk 18 ?_;refine tk 19 ?_;refine tk 21 ?_;refine tk 22 ?_;refine tk 23 ?_;refine tk 24 ?_;(refine tk 27 ?_;try simp only[zs,Act.put]);refine tkR 20 fun K hK=>?_;go_simp;go_wp2_with (go_at_call 84;(with_reducible refine(HWC.out _ (bcl hBwU (RHL.bel hHeld))).mono ?_);rintro e X5 ⟨rfl,hB5⟩);refine hK.out _ _ (by exact RHL.call hHeld hB5) (fun hHeldN=>?_);clear hK K hHeld;have hHeld:=hHeldN;clear hHeldN;(try simp only[zs,Act.put]);refine tk 25 ?_;(refine tk 26 ?_;try simp only[zs,Act.put]);refine tkR 28 fun K hK=>?_;go_simp;go_wp2_with (go_at_call 35;(with_reducible refine(HNC.out _ (bcl hBwU (RHL.bel hHeld))).mono ?_);rintro e X6 ⟨rfl,rfl⟩);refine hK.out _ _ (by exact hHeld) (fun hHeldN=>?_);clear hK K hHeld;have hHeld:=hHeldN;clear hHeldN;try simp only[zs,Act.put]
      (refine tk 29 ?_;try simp only[zs,Act.put]);refine wpAnyH_done (by kernel_rfl) ?_ _;(try simp only[zs,Act.put]);have hB4:=RHL.bel hHeld;clear hHeld;have hBr4:=bcl hBrU hB4;have hwr:wrap64 (A-1)=A-1:=wrap_small (by omega) (by omega)
      cases I with
      | true =>
        go_wp2;go_roundw;(case rel=>exact⟨k+1,A-1,rfl,rfl,by omega,by omega,by omega,hBr4,qd (by have e:=HA.out;simp at e;clear hwr;omega)⟩);case measure=>simp[intOf];omega
      | false =>
        go_wp2;go_roundw;(case rel=>exact⟨k+1,A,rfl,rfl,by omega,by omega,by omega,hBr4,qd (by have e:=HA.out;simp at e;clear hwr;omega)⟩);case measure=>simp[intOf];omega
     ·have hd2:decide (t<cl)=false:=decide_eq_false h2;have HA:=qd hA;clear hA HWO2 HWY2 htw;refine wp_region_held_drew (S:=(RHL [(⟨gb,go+k,none⟩,.int .i64 r),(⟨wr.heap.size,2,none⟩,.int .i64 co),(⟨wr.heap.size,3,none⟩,.int .i64 cl)] U)) (by kernel_rfl) (by exact RHL.drew ⟨d0,e2,e3,Below.refl _ _⟩) (fun hHeld=>?_);refine tk 0 ?_;refine tk 1 ?_;refine tk 2 ?_;refine tk 3 ?_;refine tk 4 ?_;refine tk 5 ?_;refine tk 6 ?_;refine tk 7 ?_;refine tk 8 ?_;refine tk 9 ?_;refine tk 10 ?_;refine tk 11 ?_;refine tk 12 ?_;refine tk 13 ?_;refine tk 14 ?_;refine tk 15 ?_;refine tk 16 ?_;refine tk 17 ?_;refine tkS 18 ?_;refine tkS 19 ?_;refine tkS 20 ?_;refine tkS 21 ?_;refine tkS 22 ?_;refine tkS 23 ?_;refine tkS 24 ?_;refine tkS 25 ?_;refine tkS 26 ?_;refine tkS 27 ?_;refine tkS 28 ?_;(refine tk 29 ?_;try simp only[zs,Act.put]);refine wpAnyH_done (by kernel_rfl) ?_ _;(try simp only[zs,Act.put]);have hB4:=RHL.bel hHeld;clear hHeld;have hBr4:=bcl hBrU hB4;go_wp2;go_roundw;(case rel=>exact⟨k+1,A,rfl,rfl,by omega,by omega,by omega,hBr4,qd (by have e:=HA.out;rw[hd2]at e;simp at e;omega)⟩);case measure=>simp[intOf];omega
    ·have hd1:decide (co<=t)=false:=decide_eq_false h1;have HA:=qd hA;clear hA HWO2 HWY2 htw;refine wp_region_held_drew (S:=(RHL [(⟨gb,go+k,none⟩,.int .i64 r),(⟨wr.heap.size,2,none⟩,.int .i64 co),(⟨wr.heap.size,3,none⟩,.int .i64 cl)] U)) (by kernel_rfl) (by exact RHL.drew ⟨d0,e2,e3,Below.refl _ _⟩) (fun hHeld=>?_);refine tk 0 ?_;refine tk 1 ?_;refine tk 2 ?_;refine tk 3 ?_;refine tk 4 ?_;refine tk 5 ?_;refine tk 6 ?_;refine tk 7 ?_;refine tk 8 ?_;refine tk 9 ?_;refine tk 10 ?_;refine tk 11 ?_;refine tkS 12 ?_;refine tkS 13 ?_;refine tkS 14 ?_;refine tkS 15 ?_;refine tk 16 ?_;refine tk 17 ?_;refine tkS 18 ?_;refine tkS 19 ?_;refine tkS 20 ?_;refine tkS 21 ?_;refine tkS 22 ?_;refine tkS 23 ?_;refine tkS 24 ?_;refine tkS 25 ?_;refine tkS 26 ?_;refine tkS 27 ?_;refine tkS 28 ?_;(refine tk 29 ?_;try simp only[zs,Act.put]);refine wpAnyH_done (by kernel_rfl) ?_ _;(try simp only[zs,Act.put]);have hB4:=RHL.bel hHeld;clear hHeld;have hBr4:=bcl hBrU hB4;go_wp2;go_roundw;(case rel=>exact⟨k+1,A,rfl,rfl,by omega,by omega,by omega,hBr4,qd (by have e:=HA.out;rw[hd1]at e;simp at e;omega)⟩);case measure=>simp[intOf];omega
   ·have hd0:decide (0<=r)=false:=decide_eq_false hr0;have hxw:xw=Za:=(by rw[htw,if_pos (by omega)]);rw[hxw]at hA;have hI:Jn Za.l g=false:=rfl;rw[hI,Bool.and_false,Bool.and_false]at hA;have HA:=qd hA;clear hA HWO2 HWY2 htw hI;refine wp_region_held_drew (S:=(RHL [(⟨gb,go+k,none⟩,.int .i64 r),(⟨wr.heap.size,2,none⟩,.int .i64 co),(⟨wr.heap.size,3,none⟩,.int .i64 cl)] U)) (by kernel_rfl) (by exact RHL.drew ⟨d0,e2,e3,Below.refl _ _⟩) (fun hHeld=>?_);refine tk 0 ?_;refine tk 1 ?_;refine tk 2 ?_;refine tk 3 ?_;refine tk 4 ?_;refine tk 5 ?_;refine tkS 6 ?_;refine tkS 7 ?_;refine tkS 8 ?_;refine tkS 9 ?_;refine tk 10 ?_;refine tk 11 ?_;refine tkS 12 ?_;refine tkS 13 ?_;refine tkS 14 ?_;refine tkS 15 ?_;refine tk 16 ?_;refine tk 17 ?_;refine tkS 18 ?_;refine tkS 19 ?_;refine tkS 20 ?_;refine tkS 21 ?_;refine tkS 22 ?_;refine tkS 23 ?_;refine tkS 24 ?_;refine tkS 25 ?_;refine tkS 26 ?_;refine tkS 27 ?_;refine tkS 28 ?_;(refine tk 29 ?_;try simp only[zs,Act.put]);refine wpAnyH_done (by kernel_rfl) ?_ _;(try simp only[zs,Act.put]);have hB4:=RHL.bel hHeld;clear hHeld;have hBr4:=bcl hBrU hB4;go_wp2;go_roundw;(case rel=>exact⟨k+1,A,rfl,rfl,by omega,by omega,by omega,hBr4,qd (by have e:=HA.out;simp at e;omega)⟩);case measure=>simp[intOf];omega
  ·obtain rfl:k=R.length:=(by omega);have hA:=HE.out;rw[List.drop_eq_nil_of_le (show kt.length<=R.length by rw[HTL.out];exact ql),qaK]at hA;have HA:=qd hA;clear hA;go_wp2;clear HWO HWY HTK HTW HE;have hU:=HA.out;rw[Int.sub_zero]at hU;have hA2:-20<=A:=(by omega);clear HA hA0;have HU:=qd hU;clear hU;obtain⟨V0,hV0⟩:∃V,V=wr:=⟨_,rfl⟩;subst hV0;go_loopw [14,11] (fun i q wr=>∃(k:Nat) (B:Int),i=.int .i64 k/\q=.int .i64 B/\k<=hs.length/\-20-6*(k:Int)<=B/\B<=100/\Below W.heap.size W wr/\Hid (B-ZN t g (hs.drop k)=A-ZN t g hs)) (fun i _ _=>hs.length-(intOf i).toNat);case atStart=>exact⟨0,A,rfl,rfl,by omega,by omega,by omega,hBr,qd (by simp)⟩
   case round =>
    clear k0 k1 k2 k3 k4 hBw hz hzW;obtain⟨k,B,rfl,rfl,hk,hB0,hB1,hBr,HE⟩:=hrel;obtain⟨k0,k1,k2,k3,k4⟩:=H5.out.keep hBr;have hBw:=bcl hBW hBr;have hz:=lt_of_cell k0;have hzW:=hBr.size;simp only at hz;by_cases hlt:k<hs.length
    ·obtain⟨b,o,rfl,hP⟩:=HHS.out (by show 1<=hs.length;omega);obtain⟨h,hx⟩:∃x,hs[k]? = some x:=⟨hs[k],by simp[hlt]⟩;have hkc:(k:Int)<=(hc:Int):=(by omega);have hkl:(k:Int)<(hs.length:Int):=(by omega);have c0:=qb _ hBw (hP k h hx 0 _ rfl);have c1:=qb _ hBw (hP k h hx 1 _ rfl);have c2:=qb _ hBw (hP k h hx 2 _ rfl);have c3:=qb _ hBw (hP k h hx 3 _ rfl);simp only[Nat.add_zero]at c0;obtain⟨hm0,hm6⟩:=HMS.out h (qI hx);have hA:=HE.out;rw[XT t g hx]at hA;unfold hitH at hA;clear hP hx;obtain⟨hg3,hm,hb,he⟩:=h
     simp only at *
     have hwr:wrap64 (B-hm)=B-hm:=wrap_small (by omega) (by omega);have HA:=qd hA;clear hA;by_cases e1:hg3=(g:Int)
     ·subst e1;by_cases e2:hb<=t
      ·by_cases e3:t<he
       ·go_wp2;go_roundw;(case rel=>exact⟨k+1,B-hm,rfl,rfl,by omega,by clear hwr;omega,by clear hwr;omega,by go_grown,qd (by have e:=HA.out;simp[e2,e3]at e;clear hwr;omega)⟩);case measure=>simp[intOf];omega
       ·go_wp2;go_roundw;(case rel=>exact⟨k+1,B,rfl,rfl,by omega,by clear hwr;omega,by clear hwr;omega,by go_grown,qd (by have e:=HA.out;simp[e3]at e;clear hwr;omega)⟩);case measure=>simp[intOf];omega
      ·go_wp2;go_roundw;(case rel=>exact⟨k+1,B,rfl,rfl,by omega,by clear hwr;omega,by clear hwr;omega,by go_grown,qd (by have e:=HA.out;simp[e2]at e;clear hwr;omega)⟩);case measure=>simp[intOf];omega
     ·have hne:(hg3==(g:Int))=false:=(by simpa using e1);go_wp2;go_roundw;(case rel=>exact⟨k+1,B,rfl,rfl,by omega,by clear hwr;omega,by clear hwr;omega,by go_grown,qd (by have e:=HA.out;simp[e1]at e;clear hwr;omega)⟩);case measure=>simp[intOf];omega
    ·obtain rfl:k=hs.length:=(by omega);have hA:=HE.out;rw[List.drop_eq_nil_of_le (Nat.le_refl hs.length)]at hA;have hA2:B=A-ZN t g hs:=(by have e:ZN t g []=0:=rfl;omega);have hF:V=max 0 B:=(by rw[<-HV.out,HU.out.symm,hA2]);have HF:=qd hF;clear hA hA2 hF;go_wp2
     all_goals
      go_ret;have e:=HF.out;exact⟨congrArg (fun n=>Ending.returned (Value.int .i64 n)) (by omega),hBw⟩
def qaY(D:DayM)(l R:List Int)(n:Nat)(t:Int)(x:WayM):Bool:=x.l.any fun g=>decide (Yh D (l.getD g.toNat 0) (R.take n) g.toNat t=0)
theorem qcG{α β:Type}:∀(l:List α) (m:List β) (n:Nat),l.zip (m.take n)=(l.zip m).take n
 | [],_,_=>by simp
 | _::_,[],_=>by simp
 | _::_,_::_,0=>by simp
 | _::l,_::m,n+1=>by simp[qcG l m n]
theorem qdN(D:DayM)(R:List Int)(n:Nat):xx D (R.take n)=(xx D R).take n:=by unfold xx;rw[qcG,List.map_take]
section
variable {D:DayM} {s:SetM}
theorem qgg(ho:s.order<0)(c:CalM)(k:Nat):wayK D s c k=(qK D c).ws.getD k Za:=by
 unfold wayK qbJ;rw[decide_eq_false (by omega)];rfl
theorem qat(ho:s.order<0)(took:List WayM)(c:CalM):∀n k,(yR D s took c n k).2=ZM D c (yR D s took c n k).1
 | 0,k=>rfl
 | n+1,k=>by
   unfold yR;split
   ·exact qat ho took c n (k+1)
   ·unfold ZM;rw[qgg ho];simp only;rw[if_neg (by omega),Int.toNat_natCast]
theorem XN(ho:s.order<0)(took:List WayM)(c:CalM):∀n k,(∀j,k<=j->j<k+n->((yR D s took c n k).1<0\/(j:Int)<(yR D s took c n k).1)->Jm D s.p took c.co ((qK D c).ws.getD j Za)=true)/\(0<=(yR D s took c n k).1->Jm D s.p took c.co ((qK D c).ws.getD (yR D s took c n k).1.toNat Za)=false)
 | 0,k=>⟨fun j h1 h2=>by omega,fun h=>by exact absurd h (by show ¬(0:Int)<=-1;omega)⟩
 | n+1,k=>by
   unfold yR;rw[qgg ho];obtain⟨i1,i2⟩:=XN ho took c n (k+1);by_cases hf:Jm D s.p took c.co ((qK D c).ws.getD k Za)=true
   ·rw[if_pos hf];refine⟨fun j h1 h2 h3=>?_,i2⟩;rcases Nat.eq_or_lt_of_le h1 with rfl|h1
    ·exact hf
    ·exact i1 j h1 (by omega) h3
   ·rw[if_neg hf];refine⟨fun j h1 h2 h3=>?_,fun _=>?_⟩
    ·simp only at h3;omega
    ·simp only[Int.toNat_natCast];simpa using hf
theorem qau(ho:s.order<0)(ha:s.away=0):∀(cs:List CalM) (i:Nat) (took:List WayM) (j:Nat) (r:Int) (c:CalM),(yn D s i took cs)[j]? = some r->cs[j]? = some c->r=(yR D s (took++((cs.zip (yn D s i took cs)).map fun x=>ZM D x.1 x.2).take j) c (qK D c).ws.length 0).1
 | [],_,_,j,_,_,_,h=>by simp at h
 | x::cs,i,took,j,r,c,h1,h2=>by
   have hst:ZK D s i took x=yR D s took x (qK D x).ws.length 0:=by
    unfold ZK jL;rw[ha,show decide ((0:Int)/2 ^ i%2=1)=false by simp];rfl
   unfold yn at h1⊢
   cases j with
   | zero =>
     simp only[List.getElem?_cons_zero,Option.some.injEq]at h1 h2;subst h2;rw[<-h1,hst];simp
   | succ j =>
     simp only[List.getElem?_cons_succ]at h1 h2;have:=qau ho ha cs (i+1) _ j r c h1 h2;rw[this,List.zip_cons_cons,List.map_cons,List.take_succ_cons,List.append_assoc,List.singleton_append];simp only[hst,qat ho]
end
section
variable {D:DayM}
theorem freeN_W(l R:List Int){g:Nat}(hg:g<4)(t:Int):YU D (qC l) (xx D R) g t=Yh D (l.getD g 0) R g t:=by
 unfold YU Yh;rw[yB l hg]
theorem JY(l R:List Int)(n:Nat)(t:Int){x:WayM}(hx:∀g∈x.l,0<=g/\g<4):Jm D (qC l) ((xx D R).take n) t x=qaY D l R n t x:=by
 unfold Jm qaY;rw[Bool.eq_iff_iff,List.any_eq_true,List.any_eq_true];refine exists_congr fun g=>and_congr_right fun hm=>?_;rw[<-qdN,freeN_W l _ (by have:=hx g hm;omega)]
theorem Xt(hz:checkN D=0)(l:List Int){i:Nat}{r:Int}{c:CalM}(hr:(qD D (setOf (qC l)))[i]? = some r)(hc:D.cs[i]? = some c) :
 (∀(k:Nat) x,(qK D c).ws[k]? = some x->(r<0\/(k:Int)<r)->qaY D l (qD D (setOf (qC l))) i c.co x=true)/\(∀(k:Nat) x,(qK D c).ws[k]? = some x->r=k->qaY D l (qD D (setOf (qC l))) i c.co x=false):=by
 have hk:=(qY D hz).ks;have h4:=(qY D hz).gs
 have hb:∀(k:Nat) x,(qK D c).ws[k]? = some x->∀g∈x.l,0<=g/\g<4:=fun k x hx g hg=>by
  obtain⟨o,ho,hxo⟩:=YY D c x (qI hx);have:=hk o ho x hxo g hg;omega
 have h:=qau (D:=D) (s:=setOf (qC l)) (by show(-1:Int)<0;omega) rfl D.cs 0 [] i r c hr hc;rw[List.nil_append]at h;obtain⟨s1,s2⟩:=XN (D:=D) (s:=setOf (qC l)) (by show(-1:Int)<0;omega) ((xx D (qD D (setOf (qC l)))).take i) c (qK D c).ws.length 0;rw[show(yR D (setOf (qC l)) ((xx D (qD D (setOf (qC l)))).take i) c (qK D c).ws.length 0).1=r from h.symm]at s1 s2;refine⟨fun k x hx hrk=>?_,fun k x hx hrk=>?_⟩
 ·rw[<-JY l _ i c.co (hb k x hx)];have:=s1 k (Nat.zero_le _) (by have:=(qB hx).1;omega) hrk;rwa[List.getD_eq_getElem?_getD,hx]at this
 ·rw[<-JY l _ i c.co (hb k x hx)];have:=s2 (by omega);rwa[hrk,Int.toNat_natCast,List.getD_eq_getElem?_getD,hx]at this
end
theorem qfI(D:DayM)(l R:List Int)(la ra:Option Addr)(lc rc:Nat)(t:Int)(x:WayM)(w:World)(h:DayAt w D)(hs:DaySm D)(hlc:l.length<=20/\l.length<=lc)(hl:qi w 1 encI la l)(hlp:∀x∈l,0<=x/\x<=100)(hR:R.length<=D.cs.length/\R.length<=rc)(hr:qi w 1 encI ra R)(hok:∀(k:Nat) r c,R[k]? = some r->D.cs[k]? = some c->r<(qK D c).ws.length)(hm:∀h∈D.hs,0<=h.m/\h.m<=6)
 (hxl:x.l.length<=20/\x.l.length<=x.c) (hx:qi w 1 encI x.a x.l) (hxg:∀g∈x.l,0<=g/\g<l.length) (B:Bool) (hB:(x.l.any fun g=>decide (Yh D (l.getD g.toNat 0) R g.toNat t=0)) = !B) :
 Calls qp 102 #[dv D,.slice la l.length lc,.slice ra R.length rc,.slice x.a x.l.length x.c,.int .i64 t] w fun e w'=>e=.returned (.bool B)/\Below w.heap.size w w':=by
 have hf:=fun(g:Nat) (hg:g<l.length) W (hB:Below w.heap.size w W)=>Xd D l R la ra lc rc g t W (h.keep hB) hs hlc (hl.keep hB) hlp hg hR (hr.keep hB) hok hm;obtain⟨V,hV⟩:∃V:Nat->Int,∀g,Yh D (l.getD g 0) R g t=V g:=⟨_,fun _=>rfl⟩;simp only[hV]at hf hB;have HB:=qd hB;clear hV h hs hl hlp hr hok hm hB
 unfold dv at *
 obtain⟨ts,ta,tc,gs,ga,gc,os,oa,oc,hs,ha,hc,cs,ca,cc⟩:=D;obtain⟨xl,xa,xc⟩:=x
 simp only at *
 generalize Value.slice ta ts.length tc=x0 at *
 generalize Value.slice ga gs.length gc=x1 at *
 generalize Value.slice oa os.length oc=x2 at *
 generalize Value.slice ha hs.length hc=x3 at *
 generalize Value.slice ca cs.length cc=x4 at *
 have HF:=qd hf;have HX:=qd hx;have HXG:=qd hxg;clear hf hx hxg;obtain⟨W,hW⟩:∃W,w.alloc (Obj.cells #[x0,x1,x2,x3,x4] 28)=W:=⟨_,rfl⟩;have h5:B5 W w.heap.size x0 x1 x2 x3 x4:=by subst hW;exact B5.new ..
 have hBW:Below w.heap.size w W:=by subst hW;go_grown
 have H5:=qd h5;clear h5;go_enter (sf 102 f102),ntmps102;go_upto_region 1 with fail;try rw[hW]
 clear hW;go_wp2;go_loopw [11] (fun i wr=>∃k:Nat,i=.int .i64 k/\k<=xl.length/\Below W.heap.size W wr/\Hid ((xl.take k).any (fun g=>decide (V g.toNat=0))=false)) (fun i _=>xl.length-(intOf i).toNat);case atStart=>exact⟨0,rfl,Nat.zero_le _,Below.refl _ _,qd (by simp)⟩
 case round =>
  obtain⟨k,rfl,hk,hBr,HN⟩:=hrel;have hBw:=bcl hBW hBr;by_cases hlt:k<xl.length
  ·obtain⟨k0,k1,k2,k3,k4⟩:=H5.out.keep hBr;obtain⟨b,o,rfl,hP⟩:=HX.out (by omega);obtain⟨g,hx⟩:∃x,xl[k]? = some x:=⟨xl[k],by simp[hlt]⟩;have hkc:(k:Int)<=(xc:Int):=(by omega);have hkl:(k:Int)<(xl.length:Int):=(by omega);have c0:=qb _ hBw (hP k g hx 0 _ rfl);simp only[Nat.mul_one,Nat.add_zero]at c0;have hg:=HXG.out g (qI hx);have HXK:=qd hx;clear hP hx;obtain⟨m,rfl⟩:∃m:Nat,g=m:=⟨g.toNat,by omega⟩;have hf:=HF.out m (by omega);obtain⟨v,hv⟩:∃v,V m=v:=⟨_,rfl⟩;rw[hv]at hf;have HFM:=qd hf;have HV:=qd hv;clear hf hv;go_upto_region 4 with fail;refine wp_region_held_drew (S:=(RHL [(⟨b,o+k,none⟩,.int .i64 m),(⟨w.heap.size,0,none⟩,x0),(⟨w.heap.size,1,none⟩,x1),(⟨w.heap.size,2,none⟩,x2),(⟨w.heap.size,3,none⟩,x3),(⟨w.heap.size,4,none⟩,x4)] wr)) (by kernel_rfl) (by exact RHL.drew ⟨c0,k0,k1,k2,k3,k4,Below.refl _ _⟩) (fun hHeld=>?_);refine tk 0 ?_;refine tk 1 ?_;refine tk 2 ?_;refine tk 3 ?_;refine tk 4 ?_;refine tk 5 ?_;refine tk 6 ?_;(refine tk 7 ?_;try simp only[zs,Act.put]);refine tkR 8 fun K hK=>?_;go_simp;go_wp2_with (go_at_call 32;(with_reducible refine(HFM.out _ (bcl hBw (RHL.bel hHeld))).mono ?_);rintro e X5 ⟨rfl,hB5⟩);refine hK.out _ _ (by exact RHL.call hHeld hB5) (fun hHeldN=>?_);clear hK K hHeld;have hHeld:=hHeldN;clear hHeldN;(try simp only[zs,Act.put]);(refine tk 9 ?_;try simp only[zs,Act.put]);refine wpAnyH_done (by kernel_rfl) ?_ _;(try simp only[zs,Act.put]);have hB4:=RHL.bel hHeld;clear hHeld;have hBw4:=bcl hBw hB4;have hBr4:=bcl hBr hB4;by_cases hv0:v=0
   ·subst hv0;go_wp2;go_ret;exact⟨by have e:=HB.out;rw[Zo _ HXK.out (by simpa using HV.out)]at e;cases B<;>simp at e⊢,hBw4⟩
   ·have hne:(v==0)=false:=(by simpa using hv0);go_wp2;go_roundw;(case rel=>exact⟨k+1,rfl,by omega,hBr4,qd (by rw[any_take_succ _ HXK.out HN.out];simpa[HV.out]using hv0)⟩);case measure=>simp[intOf];omega
  ·obtain rfl:k=xl.length:=(by omega);have hany:=HN.out;rw[List.take_length]at hany;have HA:=qd hany;clear hany;go_wp2;go_ret;exact⟨by have e:=HB.out;rw[HA.out]at e;cases B<;>simp at e⊢,hBw⟩
end Go.Proofs.Tryz
