/-
  Lemmas about the program and the machine (D4 to D4), upon which the last text of this claim rests; no condition.
-/
import Derived.Test.YtjkbbnphdbgjiaaGreatDoorE07
set_option linter.unusedSimpArgs false
set_option linter.unusedVariables false
set_option maxRecDepth 100000
set_option maxHeartbeats 4000000
namespace Go.Proofs.Tryz
open Go Go.Load Go.LoadR Go.RowKit
theorem wrapN{n:Nat}(h:n<=1000):IntKind.i64.wrap (n:Int)=(n:Int):=by rw[IntKind.wrap_i64];omega
theorem qdw(D:DayM)(w:World)(h:DayAt w D)(hs:DaySm D):Calls qp 80 #[dv D] w fun e w'=>e=.returned (.int .i64 (Qy D))/\Below w.heap.size w w':=by
 have hcs:=h.cs;have hsm:=hs.cs;have htl:=hs.ts.1;have hwo:=fun c W (hB:Below w.heap.size w W)=>jw D c W (h.keep hB) hs
 have how:∀c,(qK D c).ws.length<=20:=fun c=>by
  by_cases hz:zG D c<0
  ·rw[yf hz];simp
  ·have:=yg (D:=D) (c:=c) (k:=(zG D c).toNat) (by omega);exact(hs.ws _ (qI this)).1
 obtain⟨R,hR⟩:∃R,Qy D=R:=⟨_,rfl⟩;rw[hR];unfold Qy at hR;have hdrop:=fun k c last (hx:D.cs[k]? = some c)=>YJ D last hx;have hcase:=fun last c E n r r1 r2=>@XE D last c E n r r1 r2;have hnil:∀last l,l.length=0->ZU D last l=0:=fun last l h=>by cases l with|nil=>rfl|cons _ _=>cases h
 generalize calA D=CA at *
 generalize ZU D=CSA at *
 unfold dv at *
 clear h hs;simp only[ZO,cvC]at hwo;obtain⟨fa,hoa⟩:∃f:CalM->Option Addr,∀c,(qK D c).a=f c:=⟨_,fun _=>rfl⟩;obtain⟨fn,hol⟩:∃f:CalM->Nat,∀c,(qK D c).ws.length=f c:=⟨_,fun _=>rfl⟩;obtain⟨fc,hoc⟩:∃f:CalM->Nat,∀c,(qK D c).c=f c:=⟨_,fun _=>rfl⟩
 simp only[hoa,hol,hoc]at *
 clear hoa hol hoc;have hen:=fun one two=>Xe D.ta D.ts.length D.tc (by omega) (.slice D.ga D.gs.length D.gc) (.slice D.oa D.os.length D.oc) (.slice D.ha D.hs.length D.hc) (.slice D.ca D.cs.length D.cc) one two;obtain⟨ts,ta,tc,gs,ga,gc,os,oa,oc,hs,ha,hc,cs,ca,cc⟩:=D
 simp only at *
 generalize Value.slice ga gs.length gc=x2 at *
 generalize Value.slice oa os.length oc=x3 at *
 generalize Value.slice ha hs.length hc=x4 at *
 generalize hN:ts.length=N at *
 clear hN;by_cases hlen:8<cs.length
 ·simp[hlen]at hR;subst hR;clear hcs hwo;go_enter (sf 80 f80),ntmps80;go_wp2;go_ret;exact⟨rfl,by go_grown⟩
 ·simp[hlen]at hR;have HR:=qd hR;have HT:=qd hcs;have HD:=qd hdrop;have HC:=qd hcase;have HNIL:=qd hnil;clear hR hcs hdrop hcase hnil;go_enter (sf 80 f80),ntmps80;obtain⟨W,hW⟩:∃W,w.alloc (Obj.cells #[.slice ta N tc,x2,x3,x4,.slice ca cs.length cc] 28)=W:=⟨_,rfl⟩;have h6:B5 W w.heap.size (.slice ta N tc) x2 x3 x4 (.slice ca cs.length cc):=by subst hW;exact B5.new ..
  have hBW:Below w.heap.size w W:=by subst hW;go_grown
  have k1:=h6.c4;go_wp2;try rw[hW]
  clear hW k1;go_loopw [3] (fun i wr=>∃(k:Nat) (L:Int),i=.int .i64 k/\k<=cs.length/\Below W.heap.size W wr/\Hid (CSA L (cs.drop k)=R)/\Hid (if k=0 then L=0 else ∃y,cs[k-1]? = some y/\y.co=L)) (fun i _=>cs.length-(intOf i).toNat);case atStart=>exact⟨0,0,rfl,by omega,Below.refl _ _,HR,qd (by simp)⟩
  case round =>
   obtain⟨k,L,rfl,hk,hBr,HE,HL⟩:=hrel;obtain⟨k0,k1,k2,k3,k4⟩:=h6.keep hBr;have hBw:=bcl hBW hBr;have hz:=lt_of_cell k0;have hzW:=hBr.size;simp only at hz;by_cases hlt:k<cs.length
   ·obtain⟨b,o,rfl,hP⟩:=HT.out (by omega);obtain⟨c,hx⟩:∃x,cs[k]? = some x:=⟨cs[k],by simp[hlt]⟩;have hkc:(k:Int)<=(cc:Int):=(by omega);have c0:=qb _ hBw (hP k c hx 0 _ rfl);have c1:=qb _ hBw (hP k c hx 1 _ rfl);have c2:=qb _ hBw (hP k c hx 2 _ rfl);have c3:=qb _ hBw (hP k c hx 3 _ rfl);have c4:=qb _ hBw (hP k c hx 4 _ rfl);simp only[Nat.add_zero]at c0
    have hpr:∀n,k=n+1->w.cell? ⟨b,o+n*5+2,none⟩=some (.int .i64 L):=fun n hn=>by
     have h9:=HL.out;rw[if_neg (by omega)]at h9;obtain⟨y,h1,h2⟩:=h9;rw[show k-1=n by omega]at h1;rw[<-h2];exact hP n y h1 2 _ rfl
    have HPR:=qd hpr;have hL0:k=0->L=0:=fun h=>(by have h9:=HL.out;rw[if_pos h]at h9;exact h9);have HL0:=qd hL0;have HX2:Hid (if k+1=0 then c.co=0 else ∃y,cs[k+1-1]? = some y/\y.co=c.co):=qd (by rw[if_neg (by omega)];exact⟨c,hx,rfl⟩);have hA:=HE.out;rw[HD.out _ _ _ hx]at hA;clear hP hx hpr hL0;have hwo:=fun W=>hwo c W;have how:=how c;obtain⟨r,hr⟩:∃r,CA L c=r:=⟨_,rfl⟩;have hcs:=HC.out L c _ _ r _ _ hr rfl rfl rfl rfl;rw[hr]at hA;clear hr
    generalize fa c=qa at *
    generalize fn c=qn at *
    generalize fc c=qc at *
    obtain⟨fr,tw,co,cl,se⟩:=c;have hen:=hen fr tw;have hi1:=Zg co;have hi2:=Zg cl
    simp only at *
    have hco:=@zS co 0 99
    generalize zZ N fr tw=E at *
    generalize btw co 0 99=r1 at *
    generalize btw cl 0 99=r2 at *
    have HA:=qd hA;have HCO:=qd hco;have HWO:=qd hwo;clear hA hco hwo;go_upto_region 7 with fail;obtain⟨U,hU⟩:∃U,wr.alloc (Obj.cells #[.int .i64 fr,.int .i64 tw,.int .i64 co,.int .i64 cl,.int .i64 se] 99)=U:=⟨_,rfl⟩;have hBU:Below wr.heap.size wr U:=(by subst hU;go_grown);have d0:U.cell? ⟨wr.heap.size,0,none⟩=some (.int .i64 fr):=(by subst hU;go_cell);have d1:U.cell? ⟨wr.heap.size,1,none⟩=some (.int .i64 tw):=(by subst hU;go_cell);have d2:U.cell? ⟨wr.heap.size,2,none⟩=some (.int .i64 co):=(by subst hU;go_cell);have d3:U.cell? ⟨wr.heap.size,3,none⟩=some (.int .i64 cl):=(by subst hU;go_cell);have d4:U.cell? ⟨wr.heap.size,4,none⟩=some (.int .i64 se):=(by subst hU;go_cell);rw[hU];clear hU c0 c1 c2 c3 c4;have k0:=qb _ hBU k0;have k1:=qb _ hBU k1;have k2:=qb _ hBU k2;have k3:=qb _ hBU k3;have k4:=qb _ hBU k4;have hBwU:=bcl hBw hBU;have hBrU:=bcl hBr hBU;clear hBU;by_cases hE:E=0;rotate_left 1
    ·have g2:(E != 0)=true:=(by simpa using hE);rcases hcs with⟨g1,rfl⟩|h9
     ·have HA2:=HA;clear g1 HCO;go_wp2_with (go_at_call 107;(with_reducible refine(hen _).mono ?_);rintro e w1 ⟨rfl,hB1⟩;have hB2:=bcl hBwU hB1);go_ret;exact⟨by have e:=HA2.out;rw[if_pos hE]at e;rw[<-e];rfl,hB2⟩
     ·exfalso;rcases h9 with h9|h9|h9|h9|h9|h9|h9<;>exact hE h9.1
    subst hE;go_upto_region 10 with(go_at_call 107;(with_reducible refine(hen _).mono ?_);rintro e w1 ⟨rfl,hB1⟩);have hBwU:=bcl hBwU hB1;have hBrU:=bcl hBrU hB1;have k0:=qb _ hB1 k0;have d0:=qb _ hB1 d0;have k1:=qb _ hB1 k1;have d1:=qb _ hB1 d1;have k2:=qb _ hB1 k2;have d2:=qb _ hB1 d2;have k3:=qb _ hB1 k3;have d3:=qb _ hB1 d3;have k4:=qb _ hB1 k4;have d4:=qb _ hB1 d4;clear hB1 hen;rcases Nat.eq_zero_or_pos k with h0|h0
    ·subst h0;obtain rfl:=HL0.out rfl;rcases hcs with⟨g1,rfl⟩|⟨_,rfl,rfl⟩|⟨_,rfl,rfl,rfl⟩|⟨_,rfl,rfl,g1,rfl⟩|⟨_,rfl,rfl,g1,g2,rfl⟩|⟨_,rfl,rfl,g1,g2,g3,rfl⟩|⟨_,rfl,rfl,g1,g2,g3,g4,rfl⟩|⟨_,rfl,rfl,g1,g2,g3,g4,rfl⟩
     ·simp at g1
     ·go_wp2_with (first|(go_at_call 61;(with_reducible refine(hi1 _).mono ?_);rintro e w1 ⟨rfl,rfl⟩)|(go_at_call 61;(with_reducible refine(hi2 _).mono ?_);rintro e w1 ⟨rfl,rfl⟩));go_ret;exact⟨by have e:=HA.out;simp at e;rw[<-e];rfl,hBwU⟩
     ·go_wp2_with (first|(go_at_call 61;(with_reducible refine(hi1 _).mono ?_);rintro e w1 ⟨rfl,rfl⟩)|(go_at_call 61;(with_reducible refine(hi2 _).mono ?_);rintro e w1 ⟨rfl,rfl⟩));go_ret;exact⟨by have e:=HA.out;simp at e;rw[<-e];rfl,hBwU⟩
     all_goals
      go_upto_region 12 with(first|(go_at_call 61;(with_reducible refine(hi1 _).mono ?_);rintro e w1 ⟨rfl,rfl⟩)|(go_at_call 61;(with_reducible refine(hi2 _).mono ?_);rintro e w1 ⟨rfl,rfl⟩));clear hi1 hi2
     ·skip;refine wp_region_held_drew (S:=(RH3 w1 ⟨wr.heap.size,2,none⟩ ⟨wr.heap.size,3,none⟩ ⟨w.heap.size,4,none⟩ (.int .i64 co) (.int .i64 cl) (.slice (some ⟨b,o,none⟩) cs.length cc))) (by kernel_rfl) (by exact RHL.drew ⟨d2,d3,k4,Below.refl _ _⟩) (fun hHeld=>?_);refine tk 0 ?_;refine tk 1 ?_;refine tk 2 ?_;refine tk 3 ?_;refine tk 4 ?_;refine tk 5 ?_;refine tkS 6 ?_;refine tkS 7 ?_;refine tkS 8 ?_;refine tkS 9 ?_;refine tkS 10 ?_;refine tkS 11 ?_;refine tkS 12 ?_;refine tkS 13 ?_;refine tkS 14 ?_;refine tkS 15 ?_;refine tkS 16 ?_;refine tkS 17 ?_;refine tkS 18 ?_;refine tkS 19 ?_;refine tk 20 ?_;(refine tk 21 ?_;try simp only[zs,Act.put]);refine wpAnyH_done (by kernel_rfl) ?_ _;(try simp only[zs,Act.put]);have hB4:=RHL.bel hHeld;clear hHeld;have hBw4:=bcl hBwU hB4;have hBr4:=bcl hBrU hB4;go_wp2;go_ret;exact⟨by have e:=HA.out;simp at e;rw[<-e];rfl,hBw4⟩
     ·exfalso;have:=(HCO.out.1 (by first|rfl|trivial)).1;omega
     all_goals
      have hd1:decide (cl<=co)=false:=decide_eq_false (by omega);refine wp_region_held_drew (S:=(RH3 w1 ⟨wr.heap.size,2,none⟩ ⟨wr.heap.size,3,none⟩ ⟨w.heap.size,4,none⟩ (.int .i64 co) (.int .i64 cl) (.slice (some ⟨b,o,none⟩) cs.length cc))) (by kernel_rfl) (by exact RHL.drew ⟨d2,d3,k4,Below.refl _ _⟩) (fun hHeld=>?_);refine tk 0 ?_;refine tk 1 ?_;refine tk 2 ?_;refine tk 3 ?_;refine tk 4 ?_;refine tk 5 ?_;refine tk 6 ?_;refine tk 7 ?_;refine tk 8 ?_;refine tkS 9 ?_;refine tkS 10 ?_;refine tkS 11 ?_;refine tkS 12 ?_;refine tkS 13 ?_;refine tkS 14 ?_;refine tkS 15 ?_;refine tkS 16 ?_;refine tkS 17 ?_;refine tkS 18 ?_;refine tk 19 ?_;refine tk 20 ?_;(refine tk 21 ?_;try simp only[zs,Act.put]);refine wpAnyH_done (by kernel_rfl) ?_ _;(try simp only[zs,Act.put]);have hB4:=RHL.bel hHeld;clear hHeld;have hBw4:=bcl hBwU hB4;have hBr4:=bcl hBrU hB4;clear hd1
     ·skip;go_wp2;go_ret;exact⟨by have e:=HA.out;simp at e;rw[<-e];rfl,hBw4⟩
     all_goals
      go_upto_region 16 with fail;refine wp_region_held_drew (S:=(RH10 w1.drew ⟨w.heap.size,0,none⟩ ⟨w.heap.size,1,none⟩ ⟨w.heap.size,2,none⟩ ⟨w.heap.size,3,none⟩ ⟨w.heap.size,4,none⟩ ⟨wr.heap.size,0,none⟩ ⟨wr.heap.size,1,none⟩ ⟨wr.heap.size,2,none⟩ ⟨wr.heap.size,3,none⟩ ⟨wr.heap.size,4,none⟩ (.slice ta N tc) x2 x3 x4 (.slice (some ⟨b,o,none⟩) cs.length cc) (.int .i64 fr) (.int .i64 tw) (.int .i64 co) (.int .i64 cl) (.int .i64 se))) (by kernel_rfl) (by exact RHL.drew ⟨qb _ hB4 k0,qb _ hB4 k1,qb _ hB4 k2,qb _ hB4 k3,qb _ hB4 k4,qb _ hB4 d0,qb _ hB4 d1,qb _ hB4 d2,qb _ hB4 d3,qb _ hB4 d4,Below.refl _ _⟩) (fun hHeld=>?_);refine tk 0 ?_;refine tk 1 ?_;refine tk 2 ?_;(refine tk 3 ?_;try simp only[zs,Act.put]);refine tkR 4 fun K hK=>?_;go_simp;go_wp2_with (go_at_call 84;(with_reducible refine(HWO.out _ (bcl hBw4 (RHL.bel hHeld))).mono ?_);rintro e X5 ⟨rfl,hB5⟩);refine hK.out _ _ (by exact RHL.call hHeld hB5) (fun hHeldN=>?_);clear hK K hHeld;have hHeld:=hHeldN;clear hHeldN;(try simp only[zs,Act.put]);refine tk 5 ?_;refine tk 6 ?_;(refine tk 7 ?_;try simp only[zs,Act.put]);refine wpAnyH_done (by kernel_rfl) ?_ _;(try simp only[zs,Act.put]);have hB6:=RHL.bel hHeld;clear hHeld;have hBw6:=bcl hBw4 hB6;have hBr6:=bcl hBr4 hB6
     ·skip;go_wp2;go_ret;exact⟨by have e:=HA.out;simp at e;rw[<-e];rfl,hBw6⟩
     ·go_wp2;go_roundw;(case rel=>exact⟨0+1,co,(by first|rfl|(simp;omega)),by omega,hBr6,qd (by simpa using HA.out),HX2⟩);case measure=>simp[intOf];omega
    ·obtain⟨n,rfl⟩:∃n,k=n+1:=⟨k-1,by omega⟩;have p2:=qb _ hBwU (HPR.out n rfl);have en:((n+1:Nat):Int)-1=(n:Int):=(by omega);have hn1:(0:Int)<((n+1:Nat):Int):=(by omega);have hnc:(n:Int)<=(cc:Int):=(by omega);have hnl:(n:Int)<(cs.length:Int):=(by omega);have hn0:(0:Int)<=(n:Int):=Int.natCast_nonneg n;have hwn:IntKind.i64.wrap (n:Int)=(n:Int):=wrapN (by omega);rcases hcs with⟨g1,rfl⟩|⟨_,rfl,rfl⟩|⟨_,rfl,rfl,rfl⟩|⟨_,rfl,rfl,g1,rfl⟩|⟨_,rfl,rfl,g1,g2,rfl⟩|⟨_,rfl,rfl,g1,g2,g3,rfl⟩|⟨_,rfl,rfl,g1,g2,g3,g4,rfl⟩|⟨_,rfl,rfl,g1,g2,g3,g4,rfl⟩
     ·simp at g1
     ·go_wp2_with (first|(go_at_call 61;(with_reducible refine(hi1 _).mono ?_);rintro e w1 ⟨rfl,rfl⟩)|(go_at_call 61;(with_reducible refine(hi2 _).mono ?_);rintro e w1 ⟨rfl,rfl⟩));go_ret;exact⟨by have e:=HA.out;simp at e;rw[<-e];rfl,hBwU⟩
     ·go_wp2_with (first|(go_at_call 61;(with_reducible refine(hi1 _).mono ?_);rintro e w1 ⟨rfl,rfl⟩)|(go_at_call 61;(with_reducible refine(hi2 _).mono ?_);rintro e w1 ⟨rfl,rfl⟩));go_ret;exact⟨by have e:=HA.out;simp at e;rw[<-e];rfl,hBwU⟩
     all_goals
      go_upto_region 12 with(first|(go_at_call 61;(with_reducible refine(hi1 _).mono ?_);rintro e w1 ⟨rfl,rfl⟩)|(go_at_call 61;(with_reducible refine(hi2 _).mono ?_);rintro e w1 ⟨rfl,rfl⟩));clear hi1 hi2
     ·skip;refine wp_region_held_drew (S:=(RH3 w1 ⟨wr.heap.size,2,none⟩ ⟨wr.heap.size,3,none⟩ ⟨w.heap.size,4,none⟩ (.int .i64 co) (.int .i64 cl) (.slice (some ⟨b,o,none⟩) cs.length cc))) (by kernel_rfl) (by exact RHL.drew ⟨d2,d3,k4,Below.refl _ _⟩) (fun hHeld=>?_);refine tk 0 ?_;refine tk 1 ?_;refine tk 2 ?_;refine tk 3 ?_;refine tk 4 ?_;refine tk 5 ?_;refine tkS 6 ?_;refine tkS 7 ?_;refine tkS 8 ?_;refine tkS 9 ?_;refine tkS 10 ?_;refine tkS 11 ?_;refine tkS 12 ?_;refine tkS 13 ?_;refine tkS 14 ?_;refine tkS 15 ?_;refine tkS 16 ?_;refine tkS 17 ?_;refine tkS 18 ?_;refine tkS 19 ?_;refine tk 20 ?_;(refine tk 21 ?_;try simp only[zs,Act.put]);refine wpAnyH_done (by kernel_rfl) ?_ _;(try simp only[zs,Act.put]);have hB4:=RHL.bel hHeld;clear hHeld;have hBw4:=bcl hBwU hB4;have hBr4:=bcl hBrU hB4;go_wp2;go_ret;exact⟨by have e:=HA.out;simp at e;rw[<-e];rfl,hBw4⟩
     all_goals
      have hd1:decide (cl<=co)=false:=decide_eq_false (by omega);(first|have hd2:decide (co<L)=true:=decide_eq_true (by omega)|have hd2:decide (co<L)=false:=decide_eq_false (by omega));have hd3:decide ((0:Int)<(n:Int)+1)=true:=decide_eq_true (by omega);have hd4:decide ((0:Int)<((n+1:Nat):Int))=true:=decide_eq_true (by omega);refine wp_region_held_drew (S:=(RH4 w1 ⟨wr.heap.size,2,none⟩ ⟨wr.heap.size,3,none⟩ ⟨w.heap.size,4,none⟩ ⟨b,o+n*5+2,none⟩ (.int .i64 co) (.int .i64 cl) (.slice (some ⟨b,o,none⟩) cs.length cc) (.int .i64 L))) (by kernel_rfl) (by exact RHL.drew ⟨d2,d3,k4,p2,Below.refl _ _⟩) (fun hHeld=>?_);refine tk 0 ?_;refine tk 1 ?_;refine tk 2 ?_;refine tk 3 ?_;refine tk 4 ?_;refine tk 5 ?_;refine tk 6 ?_;refine tk 7 ?_;refine tk 8 ?_;refine tk 9 ?_;refine tk 10 ?_;refine tk 11 ?_;refine tk 12 ?_;refine tk 13 ?_;refine tk 14 ?_;refine tk 15 ?_;refine tk 16 ?_;refine tk 17 ?_;refine tk 18 ?_;refine tk 19 ?_;refine tk 20 ?_;(refine tk 21 ?_;try simp only[zs,Act.put]);refine wpAnyH_done (by kernel_rfl) ?_ _;(try simp only[zs,Act.put]);have hB4:=RHL.bel hHeld;clear hHeld;have hBw4:=bcl hBwU hB4;have hBr4:=bcl hBrU hB4;clear hd1 hd2 hd3 hd4
     ·skip;go_wp2;go_ret;exact⟨by have e:=HA.out;simp at e;rw[<-e];rfl,hBw4⟩
     ·skip;go_wp2;go_ret;exact⟨by have e:=HA.out;simp at e;rw[<-e];rfl,hBw4⟩
     all_goals clear p2 en hn1 hnc hnl hn0 hwn
     all_goals
      go_upto_region 16 with fail;refine wp_region_held_drew (S:=(RH10 w1.drew ⟨w.heap.size,0,none⟩ ⟨w.heap.size,1,none⟩ ⟨w.heap.size,2,none⟩ ⟨w.heap.size,3,none⟩ ⟨w.heap.size,4,none⟩ ⟨wr.heap.size,0,none⟩ ⟨wr.heap.size,1,none⟩ ⟨wr.heap.size,2,none⟩ ⟨wr.heap.size,3,none⟩ ⟨wr.heap.size,4,none⟩ (.slice ta N tc) x2 x3 x4 (.slice (some ⟨b,o,none⟩) cs.length cc) (.int .i64 fr) (.int .i64 tw) (.int .i64 co) (.int .i64 cl) (.int .i64 se))) (by kernel_rfl) (by exact RHL.drew ⟨qb _ hB4 k0,qb _ hB4 k1,qb _ hB4 k2,qb _ hB4 k3,qb _ hB4 k4,qb _ hB4 d0,qb _ hB4 d1,qb _ hB4 d2,qb _ hB4 d3,qb _ hB4 d4,Below.refl _ _⟩) (fun hHeld=>?_);refine tk 0 ?_;refine tk 1 ?_;refine tk 2 ?_;(refine tk 3 ?_;try simp only[zs,Act.put]);refine tkR 4 fun K hK=>?_;go_simp;go_wp2_with (go_at_call 84;(with_reducible refine(HWO.out _ (bcl hBw4 (RHL.bel hHeld))).mono ?_);rintro e X5 ⟨rfl,hB5⟩);refine hK.out _ _ (by exact RHL.call hHeld hB5) (fun hHeldN=>?_);clear hK K hHeld;have hHeld:=hHeldN;clear hHeldN;(try simp only[zs,Act.put]);refine tk 5 ?_;refine tk 6 ?_;(refine tk 7 ?_;try simp only[zs,Act.put]);refine wpAnyH_done (by kernel_rfl) ?_ _;(try simp only[zs,Act.put]);have hB6:=RHL.bel hHeld;clear hHeld;have hBw6:=bcl hBw4 hB6;have hBr6:=bcl hBr4 hB6
     ·skip;go_wp2;go_ret;exact⟨by have e:=HA.out;simp at e;rw[<-e];rfl,hBw6⟩
     ·go_wp2;go_roundw;(case rel=>exact⟨(n+1)+1,co,(by first|rfl|(simp;omega)),by omega,hBr6,qd (by simpa using HA.out),HX2⟩);case measure=>simp[intOf];omega
   ·obtain rfl:k=cs.length:=(by omega);have hA:=HE.out;rw[HNIL.out _ _ (by simp)]at hA;have HA:=qd hA;clear hA;go_wp2;go_ret;exact⟨by rw[<-HA.out];rfl,hBw⟩
end Go.Proofs.Tryz
