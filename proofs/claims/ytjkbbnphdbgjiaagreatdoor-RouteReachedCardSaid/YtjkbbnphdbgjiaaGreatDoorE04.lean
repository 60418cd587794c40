/-
  Lemmas about the program and the machine (Q6 to Q8), upon which the last text of this claim rests; no condition.
-/
import Derived.Maps.AppendAt
import Derived.RangeFuncOwn
import Derived.DeepKeys
import Derived.Test.YtjkbbnphdbgjiaaGreatDoorE03
set_option linter.unusedSimpArgs false
set_option linter.unusedVariables false
set_option maxRecDepth 100000
set_option maxHeartbeats 4000000
namespace Go.Proofs.Tryz
open Go Go.Load Go.RowKit
def yC(c:CalM)(o:OrdM):Bool:=o.fr==c.fr&&o.toT==c.toT
def zG(D:DayM)(c:CalM):Int:=Yi (yC c) D.os
def qK(D:DayM)(c:CalM):OrdM:=match D.os.find? (yC c)with
 | some o=>o
 | none=>⟨0,0,[],none,0⟩
theorem yf{D:DayM}{c:CalM}(h:zG D c<0):qK D c=⟨0,0,[],none,0⟩:=by
 unfold zG Yi at h;unfold qK
 cases hf:D.os.findIdx? (yC c)with
 | none =>
   rw[List.findIdx?_eq_none_iff]at hf;rw[List.find?_eq_none.2 (fun x hx=>by simp[hf x hx])]
 | some k=>rw[hf]at h;simp only at h;omega
theorem yg{D:DayM}{c:CalM}{k:Nat}(h:zG D c=k):D.os[k]? = some (qK D c):=by
 unfold zG Yi at h
 cases hf:D.os.findIdx? (yC c)with
 | none=>rw[hf]at h;simp only at h;omega
 | some j =>
   rw[hf]at h;simp only at h;obtain rfl:j=k:=(by omega);obtain⟨hj,hp,hn⟩:=List.findIdx?_eq_some_iff_getElem.1 hf;have:D.os.find? (yC c)=some D.os[j]:=List.find?_eq_some_iff_getElem.2 ⟨hp,j,hj,rfl,fun i hi=>by simpa using hn i hi⟩;unfold qK;rw[this,qM hj]
def cvC(c:CalM):Value:=.agg #[.int .i64 c.fr,.int .i64 c.toT,.int .i64 c.co,.int .i64 c.cl,.int .i64 c.se]
theorem qap(x:OrdM)(c:CalM)(b:Nat)(w:World)(h0:w.cell? ⟨b,0,none⟩=some (.int .i64 c.fr))(h1:w.cell? ⟨b,1,none⟩=some (.int .i64 c.toT)) :
 Calls qp 126 #[.agg #[.int .i64 x.fr,.int .i64 x.toT,.slice x.a x.ws.length x.c],.pointer (some ⟨b,0,none⟩)] w fun e w'=>e=.returned (.bool (yC c x))/\Below w.heap.size w w':=by
 obtain⟨f,t,ws,a,k⟩:=x;obtain⟨cf,ct,_,_,_⟩:=c
 simp only[yC]at *
 have hz:=lt_of_cell h0;simp only at hz;by_cases e1:f=cf
 ·subst e1;by_cases e2:t=ct
  ·subst e2;go_enter (sf 126 f126),ntmps126;go_wp2;go_ret;exact⟨by simp,by go_grown⟩
  ·have e3:(t==ct)=false:=(by simpa using e2);go_enter (sf 126 f126),ntmps126;go_wp2;go_ret;exact⟨by simp[e2],by go_grown⟩
 ·have e3:(f==cf)=false:=by simpa using e1
  go_enter (sf 126 f126),ntmps126;go_wp2;go_ret;exact⟨by simp[e1],by go_grown⟩
theorem qbr(D:DayM)(m:Option Nat)(c:CalM)(w:World)(h:DayAt w D)(hs:DaySm D):Calls qp 99 #[dm D m,cvC c] w fun e w'=>e=.returned (.int .i64 (zG D c))/\Below w.heap.size w w':=by
 have hos:=h.os;have hsm:=hs.os;unfold zG
 have hI:=fun W (hB:Below w.heap.size w W) (b:Nat) (h0:W.cell? ⟨b,0,none⟩=some (.int .i64 c.fr)) (h1:W.cell? ⟨b,1,none⟩=some (.int .i64 c.toT)) =>
  indexOrd 126 #[.pointer (some ⟨b,0,none⟩)] (fun _ _=>by kernel_rfl) (yC c) D.os D.oa D.oc (by omega) (fun V=>Below W.heap.size W V) (fun V (hV:Below W.heap.size W V)=>hos.keep (bcl hB hV)) W (Below.refl _ _)
   (fun i x _ V (hV:Below W.heap.size W V)=>(qap x c b V (qb _ hV h0) (qb _ hV h1)).mono fun e w' ⟨he,hB1⟩=>⟨he,bcl hV hB1⟩)
 clear h hs hos;unfold dm cvC;obtain⟨ts,ta,tc,gs,ga,gc,os,oa,oc,hs,ha,hc,cs,ca,cc⟩:=D
 simp only at *
 generalize Yi (yC c) os=R at *
 have HI:=qd hI;clear hI;go_enter (sf 99 f99),ntmps99;go_wp2_with (go_at_call 125;(with_reducible refine(HI.out _ (by go_grown) _ (by go_cell) (by go_cell)).mono ?_);rintro e w1 ⟨rfl,hB1⟩;have hB2:=bcl (w:=w) (by go_grown) hB1);go_ret;exact⟨rfl,by go_grown⟩
def ZO(D:DayM)(c:CalM):Value:=.slice (qK D c).a (qK D c).ws.length (qK D c).c
theorem Qs(D:DayM)(m:Option Nat)(c:CalM)(w:World)(h:DayAt w D)(hs:DaySm D):Calls qp 59 #[dm D m,cvC c] w fun e w'=>e=.returned (ZO D c)/\Below w.heap.size w w':=by
 have hor:=fun W (hB:Below w.heap.size w W)=>qbr D m c W (h.keep hB) hs;have hos:=h.os;have hsm:=hs.os;have hnone:=@yf D c;have hsome:=@yg D c;have hlt:zG D c<D.os.length:=idxN_lt _ _;clear h hs
 unfold dm cvC ZO at *
 obtain⟨ts,ta,tc,gs,ga,gc,os,oa,oc,hs,ha,hc,cs,ca,cc⟩:=D
 generalize qK ⟨ts,ta,tc,gs,ga,gc,os,oa,oc,hs,ha,hc,cs,ca,cc⟩ c=O at *
 generalize zG ⟨ts,ta,tc,gs,ga,gc,os,oa,oc,hs,ha,hc,cs,ca,cc⟩ c=R at *
 simp only at *
 by_cases h0:R<0
 ·have hn:=hnone h0;subst hn;clear hnone hsome hos;go_enter (sf 59 f59),ntmps59;go_wp2_with (go_at_call 99;(with_reducible refine(hor _ (by go_grown)).mono ?_);rintro e w1 ⟨rfl,hB1⟩;have hB2:=bcl (w:=w) (by go_grown) hB1);go_ret;exact⟨rfl,by go_grown⟩
 ·obtain⟨k,rfl⟩:∃k:Nat,R=k:=⟨R.toNat,by omega⟩;have hx:=hsome rfl;obtain⟨b,o,rfl,hP⟩:=hos (by omega);have c2:=hP k _ hx 2 _ rfl;have hlt2:k<os.length:=by omega
  have hkc:(k:Int)<=(oc:Int):=by omega
  clear hnone hsome hos hx hP;go_enter (sf 59 f59),ntmps59;go_wp2_with (go_at_call 99;(with_reducible refine(hor _ (by go_grown)).mono ?_);rintro e w1 ⟨rfl,hB1⟩;have hB2:=bcl (w:=w) (by go_grown) hB1;have c2:=qb _ hB2 c2;obtain⟨hc,hg⟩:=zY hB1;have hz1:=hB1.size;simp at hz1);go_ret;exact⟨rfl,by go_grown⟩
def calA(D:DayM)(last:Int)(c:CalM):Int:=if zZ D.ts.length c.fr c.toT≠0 then zZ D.ts.length c.fr c.toT else if(btw c.co 0 99&&btw c.cl 0 99)=false then 1 else if c.cl<=c.co\/c.co<last then 7 else if c.se < -2 then 1 else if(qK D c).ws.length<=c.se then 6 else 0
def ZU(D:DayM):Int->List CalM->Int
 | _,[]=>0
 | last,c::l=>if calA D last c≠0 then calA D last c else ZU D c.co l
def Qy(D:DayM):Int:=if 8<D.cs.length then 2 else ZU D 0 D.cs
theorem YJ(D:DayM){l:List CalM}{k:Nat}{c:CalM}(last:Int)(h:l[k]? = some c):ZU D last (l.drop k)=if calA D last c≠0 then calA D last c else ZU D c.co (l.drop (k+1)):=by
 obtain⟨hk,rfl⟩:=qB h;rw[List.drop_eq_getElem_cons hk];rfl
theorem XE(D:DayM)(last:Int)(c:CalM){E n r:Int}{r1 r2:Bool}(h:calA D last c=r)(hE:zZ D.ts.length c.fr c.toT=E)(h1:btw c.co 0 99=r1)(h2:btw c.cl 0 99=r2)(hn:((qK D c).ws.length:Int)=n) :
 ((E != 0)=true/\r=E)\/(E=0/\r1=false/\r=1)\/(E=0/\r1=true/\r2=false/\r=1)\/(E=0/\r1=true/\r2=true/\c.cl<=c.co/\r=7)\/(E=0/\r1=true/\r2=true/\¬c.cl<=c.co/\c.co<last/\r=7) \/
 (E=0/\r1=true/\r2=true/\¬c.cl<=c.co/\¬c.co<last/\c.se < -2/\r=1)\/(E=0/\r1=true/\r2=true/\¬c.cl<=c.co/\¬c.co<last/\¬c.se < -2/\n<=c.se/\r=6)\/(E=0/\r1=true/\r2=true/\¬c.cl<=c.co/\¬c.co<last/\¬c.se < -2/\¬n<=c.se/\r=0):=by
 subst h;unfold calA;rw[hE,h1,h2,hn];by_cases a:E=0<;>cases r1<;>cases r2<;>by_cases b:c.cl<=c.co<;>by_cases d:c.co<last<;>by_cases e:c.se < -2<;>by_cases f:n<=c.se<;>simp[a,b,d,e,f]
theorem qed(D:DayM)(m:Option Nat)(w:World)(h:DayAt w D)(hs:DaySm D):Calls qp 168 #[dm D m] w fun e w'=>e=.returned (.int .i64 (Qy D))/\Below w.heap.size w w':=by
 have hcs:=h.cs;have hsm:=hs.cs;have htl:=hs.ts.1;have hwo:=fun c W (hB:Below w.heap.size w W)=>Qs D m c W (h.keep hB) hs
 have how:∀c,(qK D c).ws.length<=20:=fun c=>by
  by_cases hz:zG D c<0
  ·rw[yf hz];simp
  ·have:=yg (D:=D) (c:=c) (k:=(zG D c).toNat) (by omega);exact(hs.ws _ (qI this)).1
 obtain⟨R,hR⟩:∃R,Qy D=R:=⟨_,rfl⟩;rw[hR];unfold Qy at hR;have hdrop:=fun k c last (hx:D.cs[k]? = some c)=>YJ D last hx;have hcase:=fun last c E n r r1 r2=>@XE D last c E n r r1 r2;have hnil:∀last l,l.length=0->ZU D last l=0:=fun last l h=>by cases l with|nil=>rfl|cons _ _=>cases h
 generalize calA D=CA at *
 generalize ZU D=CSA at *
 unfold dm at *
 clear h hs;simp only[ZO,cvC]at hwo;obtain⟨fa,hoa⟩:∃f:CalM->Option Addr,∀c,(qK D c).a=f c:=⟨_,fun _=>rfl⟩;obtain⟨fn,hol⟩:∃f:CalM->Nat,∀c,(qK D c).ws.length=f c:=⟨_,fun _=>rfl⟩;obtain⟨fc,hoc⟩:∃f:CalM->Nat,∀c,(qK D c).c=f c:=⟨_,fun _=>rfl⟩
 simp only[hoa,hol,hoc]at *
 clear hoa hol hoc;have hen:=fun one two=>Jg D.ta D.ts.length D.tc (by omega) (.slice D.ga D.gs.length D.gc) (.slice D.oa D.os.length D.oc) (.slice D.ha D.hs.length D.hc) (.slice D.ca D.cs.length D.cc) (.map m) one two;obtain⟨ts,ta,tc,gs,ga,gc,os,oa,oc,hs,ha,hc,cs,ca,cc⟩:=D
 simp only at *
 generalize Value.slice ga gs.length gc=x2 at *
 generalize Value.slice oa os.length oc=x3 at *
 generalize Value.slice ha hs.length hc=x4 at *
 generalize hN:ts.length=N at *
 clear hN;by_cases hlen:8<cs.length
 ·simp[hlen]at hR;subst hR;clear hcs hwo;go_enter (sf 168 f168),ntmps168;go_wp2;go_ret;exact⟨rfl,by go_grown⟩
 ·simp[hlen]at hR;have HR:=qd hR;have HT:=qd hcs;have HD:=qd hdrop;have HC:=qd hcase;have HNIL:=qd hnil;clear hR hcs hdrop hcase hnil;go_enter (sf 168 f168),ntmps168;obtain⟨W,hW⟩:∃W,w.alloc (Obj.cells #[.slice ta N tc,x2,x3,x4,.slice ca cs.length cc,.map m] 73)=W:=⟨_,rfl⟩;have h6:B6 W w.heap.size (.slice ta N tc) x2 x3 x4 (.slice ca cs.length cc) (.map m):=by subst hW;exact B6.new ..
  have hBW:Below w.heap.size w W:=by subst hW;go_grown
  have k1:=h6.c4;go_wp2;try rw[hW]
  clear hW k1;go_loopw [16,3] (fun i q wr=>∃(k:Nat) (L:Int),i=.int .i64 k/\q=.int .i64 L/\k<=cs.length/\Below W.heap.size W wr/\Hid (CSA L (cs.drop k)=R)) (fun i _ _=>cs.length-(intOf i).toNat);case atStart=>exact⟨0,0,rfl,rfl,by omega,Below.refl _ _,HR⟩
  case round =>
   obtain⟨k,L,rfl,rfl,hk,hBr,HE⟩:=hrel;obtain⟨k0,k1,k2,k3,k4,k5⟩:=h6.keep hBr;have hBw:=bcl hBW hBr;have hz:=lt_of_cell k0;have hzW:=hBr.size;simp only at hz;by_cases hlt:k<cs.length
   ·obtain⟨b,o,rfl,hP⟩:=HT.out (by omega);obtain⟨c,hx⟩:∃x,cs[k]? = some x:=⟨cs[k],by simp[hlt]⟩;have hkc:(k:Int)<=(cc:Int):=(by omega);have c0:=qb _ hBw (hP k c hx 0 _ rfl);have c1:=qb _ hBw (hP k c hx 1 _ rfl);have c2:=qb _ hBw (hP k c hx 2 _ rfl);have c3:=qb _ hBw (hP k c hx 3 _ rfl);have c4:=qb _ hBw (hP k c hx 4 _ rfl);simp only[Nat.add_zero]at c0;have hA:=HE.out;rw[HD.out _ _ _ hx]at hA;clear hP hx;have hwo:=fun W=>hwo c W;have how:=how c;obtain⟨r,hr⟩:∃r,CA L c=r:=⟨_,rfl⟩;have hcs:=HC.out L c _ _ r _ _ hr rfl rfl rfl rfl;rw[hr]at hA;clear hr
    generalize fa c=qa at *
    generalize fn c=qn at *
    generalize fc c=qc at *
    obtain⟨fr,tw,co,cl,se⟩:=c;have hen:=hen fr tw;have hi1:=ja co;have hi2:=ja cl
    simp only at *
    generalize zZ N fr tw=E at *
    generalize btw co 0 99=r1 at *
    generalize btw cl 0 99=r2 at *
    have HA:=qd hA;clear hA;rcases hcs with⟨g1,rfl⟩|⟨rfl,rfl,rfl⟩|⟨rfl,rfl,rfl,rfl⟩|⟨rfl,rfl,rfl,g1,rfl⟩|⟨rfl,rfl,rfl,g1,g2,rfl⟩|⟨rfl,rfl,rfl,g1,g2,g3,rfl⟩|⟨rfl,rfl,rfl,g1,g2,g3,g4,rfl⟩|⟨rfl,rfl,rfl,g1,g2,g3,g4,rfl⟩
    ·go_wp2_with (first|(go_at_call 174;(with_reducible refine(hen _).mono ?_);rintro e w1 ⟨rfl,hB1⟩;have hB2:=bcl (w:=w) (by go_grown) hB1;have hB3:=bcl (w:=W) (by go_grown) hB1;obtain⟨hc,hg⟩:=zY hB1;have hz1:=hB1.size;simp at hz1)|(go_at_call 56;(with_reducible refine(hi1 _).mono ?_);rintro e w1 ⟨rfl,rfl⟩)|(go_at_call 56;(with_reducible refine(hi2 _).mono ?_);rintro e w1 ⟨rfl,rfl⟩));go_ret
     exact⟨by have e:=HA.out;have g2:r≠0:=by simpa using g1
              rw[if_pos g2]at e;rw[<-e];rfl,by go_grown⟩
    ·go_wp2_with (first|(go_at_call 174;(with_reducible refine(hen _).mono ?_);rintro e w1 ⟨rfl,hB1⟩;have hB2:=bcl (w:=w) (by go_grown) hB1;have hB3:=bcl (w:=W) (by go_grown) hB1;obtain⟨hc,hg⟩:=zY hB1;have hz1:=hB1.size;simp at hz1)|(go_at_call 56;(with_reducible refine(hi1 _).mono ?_);rintro e w1 ⟨rfl,rfl⟩)|(go_at_call 56;(with_reducible refine(hi2 _).mono ?_);rintro e w1 ⟨rfl,rfl⟩));go_ret;exact⟨by have e:=HA.out;simp at e;rw[<-e];rfl,by go_grown⟩
    ·go_wp2_with (first|(go_at_call 174;(with_reducible refine(hen _).mono ?_);rintro e w1 ⟨rfl,hB1⟩;have hB2:=bcl (w:=w) (by go_grown) hB1;have hB3:=bcl (w:=W) (by go_grown) hB1;obtain⟨hc,hg⟩:=zY hB1;have hz1:=hB1.size;simp at hz1)|(go_at_call 56;(with_reducible refine(hi1 _).mono ?_);rintro e w1 ⟨rfl,rfl⟩)|(go_at_call 56;(with_reducible refine(hi2 _).mono ?_);rintro e w1 ⟨rfl,rfl⟩));go_ret;exact⟨by have e:=HA.out;simp at e;rw[<-e];rfl,by go_grown⟩
    ·go_wp2_with (first|(go_at_call 174;(with_reducible refine(hen _).mono ?_);rintro e w1 ⟨rfl,hB1⟩;have hB2:=bcl (w:=w) (by go_grown) hB1;have hB3:=bcl (w:=W) (by go_grown) hB1;obtain⟨hc,hg⟩:=zY hB1;have hz1:=hB1.size;simp at hz1)|(go_at_call 56;(with_reducible refine(hi1 _).mono ?_);rintro e w1 ⟨rfl,rfl⟩)|(go_at_call 56;(with_reducible refine(hi2 _).mono ?_);rintro e w1 ⟨rfl,rfl⟩));go_ret;exact⟨by have e:=HA.out;simp at e;rw[<-e];rfl,by go_grown⟩
    ·go_wp2_with (first|(go_at_call 174;(with_reducible refine(hen _).mono ?_);rintro e w1 ⟨rfl,hB1⟩;have hB2:=bcl (w:=w) (by go_grown) hB1;have hB3:=bcl (w:=W) (by go_grown) hB1;obtain⟨hc,hg⟩:=zY hB1;have hz1:=hB1.size;simp at hz1)|(go_at_call 56;(with_reducible refine(hi1 _).mono ?_);rintro e w1 ⟨rfl,rfl⟩)|(go_at_call 56;(with_reducible refine(hi2 _).mono ?_);rintro e w1 ⟨rfl,rfl⟩));go_ret;exact⟨by have e:=HA.out;simp at e;rw[<-e];rfl,by go_grown⟩
    ·go_wp2_with (first|(go_at_call 174;(with_reducible refine(hen _).mono ?_);rintro e w1 ⟨rfl,hB1⟩;have hB2:=bcl (w:=w) (by go_grown) hB1;have hB3:=bcl (w:=W) (by go_grown) hB1;obtain⟨hc,hg⟩:=zY hB1;have hz1:=hB1.size;simp at hz1)|(go_at_call 56;(with_reducible refine(hi1 _).mono ?_);rintro e w1 ⟨rfl,rfl⟩)|(go_at_call 56;(with_reducible refine(hi2 _).mono ?_);rintro e w1 ⟨rfl,rfl⟩));go_ret;exact⟨by have e:=HA.out;simp at e;rw[<-e];rfl,by go_grown⟩
    ·go_wp2_with (first|(go_at_call 174;(with_reducible refine(hen _).mono ?_);rintro e w1 ⟨rfl,hB1⟩;have hB2:=bcl (w:=w) (by go_grown) hB1;have hB3:=bcl (w:=W) (by go_grown) hB1;obtain⟨hc,hg⟩:=zY hB1;have hz1:=hB1.size;simp at hz1)|(go_at_call 56;(with_reducible refine(hi1 _).mono ?_);rintro e w1 ⟨rfl,rfl⟩)|(go_at_call 56;(with_reducible refine(hi2 _).mono ?_);rintro e w1 ⟨rfl,rfl⟩));go_region_held3 (RH11 w1 ⟨w.heap.size,0,none⟩ ⟨w.heap.size,1,none⟩ ⟨w.heap.size,2,none⟩ ⟨w.heap.size,3,none⟩ ⟨w.heap.size,4,none⟩ ⟨w.heap.size,5,none⟩ ⟨wr.heap.size,0,none⟩ ⟨wr.heap.size,1,none⟩ ⟨wr.heap.size,2,none⟩ ⟨wr.heap.size,3,none⟩ ⟨wr.heap.size,4,none⟩ (.slice ta N tc) x2 x3 x4 (.slice (some ⟨b,o,none⟩) cs.length cc) (.map m) (.int .i64 fr) (.int .i64 tw) (.int .i64 co) (.int .i64 cl) (.int .i64 se)) (first|exact RHL.drew ‹_› | exact⟨by go_cell,by go_cell,by go_cell,by go_cell,by go_cell,by go_cell,by go_cell,by go_cell,by go_cell,by go_cell,by go_cell,by go_grown⟩|exact RHL.call ‹_› hB4|assumption) (first|(go_at_call 59;(with_reducible refine(hwo _ (bcl hB2 (RHL.bel (by with_reducible assumption)))).mono ?_);rintro e wy ⟨rfl,hB4⟩))
     all_goals
      rename_i hH;have hBx:=RHL.bel hH;clear hH;have hB5:=bcl hB2 hBx;go_wp2_with fail;go_ret;exact⟨by have e:=HA.out;simp at e;rw[<-e];rfl,by go_grown⟩
    ·go_wp2_with (first|(go_at_call 174;(with_reducible refine(hen _).mono ?_);rintro e w1 ⟨rfl,hB1⟩;have hB2:=bcl (w:=w) (by go_grown) hB1;have hB3:=bcl (w:=W) (by go_grown) hB1;obtain⟨hc,hg⟩:=zY hB1;have hz1:=hB1.size;simp at hz1)|(go_at_call 56;(with_reducible refine(hi1 _).mono ?_);rintro e w1 ⟨rfl,rfl⟩)|(go_at_call 56;(with_reducible refine(hi2 _).mono ?_);rintro e w1 ⟨rfl,rfl⟩));go_region_held3 (RH11 w1 ⟨w.heap.size,0,none⟩ ⟨w.heap.size,1,none⟩ ⟨w.heap.size,2,none⟩ ⟨w.heap.size,3,none⟩ ⟨w.heap.size,4,none⟩ ⟨w.heap.size,5,none⟩ ⟨wr.heap.size,0,none⟩ ⟨wr.heap.size,1,none⟩ ⟨wr.heap.size,2,none⟩ ⟨wr.heap.size,3,none⟩ ⟨wr.heap.size,4,none⟩ (.slice ta N tc) x2 x3 x4 (.slice (some ⟨b,o,none⟩) cs.length cc) (.map m) (.int .i64 fr) (.int .i64 tw) (.int .i64 co) (.int .i64 cl) (.int .i64 se)) (first|exact RHL.drew ‹_› | exact⟨by go_cell,by go_cell,by go_cell,by go_cell,by go_cell,by go_cell,by go_cell,by go_cell,by go_cell,by go_cell,by go_cell,by go_grown⟩|exact RHL.call ‹_› hB4|assumption) (first|(go_at_call 59;(with_reducible refine(hwo _ (bcl hB2 (RHL.bel (by with_reducible assumption)))).mono ?_);rintro e wy ⟨rfl,hB4⟩))
     all_goals
      rename_i hH;have hBx:=RHL.bel hH;have c2:=hH.2.2.2.2.2.2.2.2.1;clear hH;have hB5:=bcl hB3 hBx;go_wp2_with fail;go_roundw;(case rel=>exact⟨k+1,co,rfl,rfl,by omega,by go_grown,qd (by simpa using HA.out)⟩);case measure=>simp[intOf];omega
   ·obtain rfl:k=cs.length:=(by omega);have hA:=HE.out;rw[HNIL.out _ _ (by simp)]at hA;have HA:=qd hA;clear hA;go_wp2;go_ret;exact⟨by rw[<-HA.out];rfl,hBw⟩
end Go.Proofs.Tryz
namespace Go.Proofs.Tryz
open Go Go.Load Go.RowKit Go.Instr
def yw{α:Type}[DecidableEq α](k:α):List (α×Value)->Nat->Option (Nat×Value)
 | [],_=>none
 | p::L,i=>if k=p.1 then some (i,p.2)else yw k L (i+1)
def yM{α:Type}(enc:α->Value)(es:List MapEntry)(L:List (α×Value)):Prop:=es.map (fun e=>(e.key,e.val))=L.map fun p=>(enc p.1,p.2)
structure MapTy {α:Type} [DecidableEq α] (mt kt et:TypeId) (enc:α->Value) (z:Value):Prop where
 hu:∀w,(Go.underlying mt).run qp w=.ok (.map kt et) w
 ck:∀e k w,(checkKey e 10000 kt (enc k)).run qp w=.ok () w
 fk:∀k es L w,yM enc es L->(findKey kt (enc k) es).run qp w=.ok (yw k L 0) w
 hz:∀w,(zeroValue et).run qp w=.ok z w
 sb:∀k,sameBits 10000 (enc k) (enc k)=true
def Qu{α:Type}[DecidableEq α](enc:α->Value)(W:World)(m:Nat)(f:α->Option Value):Prop :=
 ∃es clock L,W.heap[m]? = some (.map es clock)/\yM enc es.toList L/\∀k,(yw k L 0).map Prod.snd=f k
section
variable {α:Type} [DecidableEq α] {enc:α->Value} {mt kt et:TypeId} {z:Value}
theorem Qu.block{W W1:World}{m:Nat}{f:α->Option Value}(h:Qu enc W m f)(e:W1.heap[m]? = W.heap[m]?):Qu enc W1 m f:=by
 obtain⟨es,c,L,h1,h2⟩:=h;exact⟨es,c,L,e.trans h1,h2⟩
theorem Qu.lt{W:World}{m:Nat}{f:α->Option Value}(h:Qu enc W m f):m<W.heap.size:=by
 obtain⟨es,c,L,h1,h2⟩:=h;exact(qy h1).1
theorem Qu.keep{W W1:World}{m:Nat}{f:α->Option Value}(h:Qu enc W m f)(hB:Below W.heap.size W W1):Qu enc W1 m f:=h.block (hB.block m h.lt)
theorem Qu.new(w:World):Qu enc (w.alloc (.map #[] 0)) w.heap.size (fun _=>none) :=
 ⟨#[],0,[],Array.getElem?_push_size,rfl,fun _=>rfl⟩
theorem yH(T:MapTy mt kt et enc z){W:World}{m:Nat}{f:α->Option Value}(h:Qu enc W m f)(k:α)(c:Bool) :
 (Instr.lookup mt (.map (some m)) (enc k) c).run qp W=.ok (if c then .tuple #[(f k).getD z,.bool (f k).isSome]else(f k).getD z) W:=by
 obtain⟨es,clock,L,h1,h2,h3⟩:=h;unfold Instr.lookup;have hg:(getObj m).run qp W=.ok (.map es clock) W:=by simp[getObj,Sem.run,h1]
 simp only[Sem.run_bind,T.hu,hg,Result.andThen_ok,Sem.run_pure,T.ck];show((findKey kt (enc k) es.toList).run qp W).andThen _=_;rw[T.fk k _ L W h2,Result.andThen_ok,<-h3 k]
 cases yw k L 0 with
 | none=>simp[T.hz]
 | some p=>simp
theorem qbf(k:α)(L:List (α×Value))(i j:Nat):yw k L (i+j)=(yw k L i).map fun p=>(p.1+j,p.2):=by
 induction L generalizing i with
 | nil=>rfl
 | cons p L ih =>
   unfold yw;split
   ·rfl
   ·rw[show i+j+1=(i+1)+j by omega,ih]
theorem qcY(k k':α)(v:Value)(L:List (α×Value))(i:Nat)(h:yw k L i=none):(yw k' (L++[(k,v)]) i).map Prod.snd=if k'=k then some v else(yw k' L i).map Prod.snd:=by
 induction L generalizing i with
 | nil =>
   simp only[List.nil_append,yw];split<;>simp
 | cons p L ih =>
   simp only[List.cons_append,yw]at h⊢;split at h
   ·cases h
   ·rename_i hkp;by_cases hk:k'=p.1
    ·have:k'≠k:=fun e=>hkp (e▸hk);rw[if_pos hk,if_pos hk,if_neg this]
    ·rw[if_neg hk,if_neg hk];exact ih _ h
theorem qez(k k':α)(v v0:Value)(L:List (α×Value))(i j:Nat)(h:yw k L i=some (i+j,v0)):(yw k' (L.modify j fun _=>(k,v)) i).map Prod.snd=if k'=k then some v else(yw k' L i).map Prod.snd:=by
 induction L generalizing i j with
 | nil=>cases h
 | cons p L ih =>
   simp only[yw]at h;split at h
   ·rename_i hkp;simp only[Option.some.injEq,Prod.mk.injEq]at h;obtain rfl:j=0:=(by omega);simp only[List.modify_zero_cons,yw];by_cases hk:k'=k
    ·simp[hk]
    ·rw[if_neg hk,if_neg hk,if_neg (fun e=>hk (e.trans hkp.symm))]
   ·rename_i hkp
    obtain⟨q,hq,hq2⟩:∃q,yw k L i=some q/\q.1+1=i+j:=by
     rw[qbf]at h
     cases hq:yw k L i with
     | none=>rw[hq]at h;cases h
     | some q=>rw[hq]at h;simp at h;exact⟨q,rfl,h.1⟩
    have hge:∀(L:List (α×Value)) (i:Nat) (q),yw k L i=some q->i<=q.1:=by
     intro L
     induction L with
     | nil=>intro i q h;cases h
     | cons p L ih =>
       intro i q h;simp only[yw]at h;split at h
       ·simp at h;subst h;exact ql
       ·have:=ih _ _ h;omega
    have:=hge _ _ _ hq;obtain⟨j,rfl⟩:∃j',j=j'+1:=⟨j-1,by omega⟩;simp only[List.modify_succ_cons,yw];by_cases hk:k'=p.1
    ·rw[if_pos hk,if_pos hk,if_neg (fun e:k'=k=>hkp (e▸hk))]
    ·rw[if_neg hk,if_neg hk];exact ih _ _ (by rw[h];congr 2;omega)
theorem findL_at(k:α)(v:Value)(L:List (α×Value))(i j:Nat)(h:yw k L i=some (j,v)):∃n,j=i+n/\L[n]? = some (k,v):=by
 induction L generalizing i with
 | nil=>cases h
 | cons p L ih =>
   simp only[yw]at h;split at h
   ·rename_i e;simp only[Option.some.injEq,Prod.mk.injEq]at h;exact⟨0,by omega,by simp[e,<-h.2]⟩
   ·obtain⟨n,e,h2⟩:=ih _ h;exact⟨n+1,by omega,by simpa using h2⟩
omit [DecidableEq α] in
theorem yM.modify{es:List MapEntry}{L:List (α×Value)}(h:yM enc es L)(k:α)(v:Value)(j:Nat):yM enc (es.modify j fun e=>{ e with key:=enc k,val:=v }) (L.modify j fun _=>(k,v)):=by
 unfold yM at *
 induction es generalizing L j with
 | nil =>
   cases L with
   | nil=>cases j<;>rfl
   | cons p L=>simp at h
 | cons e es ih =>
   cases L with
   | nil=>simp at h
   | cons p L =>
     simp only[List.map_cons,List.cons.injEq]at h
     cases j with
     | zero=>simp[h.2]
     | succ j=>simp only[List.modify_succ_cons,List.map_cons,ih h.2,h.1]
theorem jh(T:MapTy mt kt et enc z){W:World}{m:Nat}{f:α->Option Value}(h:Qu enc W m f)(k:α)(v:Value) :
 ∃W1,(Instr.mapUpdate mt (.map (some m)) (enc k) v).run qp W=.ok () W1/\Qu enc W1 m (fun k'=>if k'=k then some v else f k')/\W.grownBy W1 (some m)/\W1.heap.size=W.heap.size:=by
 obtain⟨es,clock,L,h1,h2,h3⟩:=h;have hg:(getObj m).run qp W=.ok (.map es clock) W:=by simp[getObj,Sem.run,h1]
 have hlt:m<W.heap.size:=(qy h1).1
 cases hr:yw k L 0 with
 | none =>
   refine⟨W.putObj m (.map (es.push { key:=enc k,val:=v,born:=clock }) (clock+1)),?_,⟨_,_,L++[(k,v)],World.putObj_heap_same hlt,?_,fun k'=>?_⟩,grownBy_putObj' W _ _,by simp[World.putObj]⟩
   ·unfold Instr.mapUpdate;simp only[Sem.run_bind,T.hu,hg,Result.andThen_ok,T.ck];show((findKey kt (enc k) es.toList).run qp W).andThen _=_;rw[T.fk k _ L W h2,hr,Result.andThen_ok];show(setObj m _).run qp W=_;unfold setObj;simp[Sem.run,h1,World.putObj]
   ·unfold yM at h2⊢;simp[h2]
   ·rw[qcY k k' v L 0 hr,h3 k']
 | some q =>
   obtain⟨j,v0⟩:=q;refine⟨W.putObj m (.map (es.modify j fun e=>{ e with key:=enc k,val:=v }) clock),?_,⟨_,_,L.modify j (fun _=>(k,v)),World.putObj_heap_same hlt,?_,fun k'=>?_⟩,grownBy_putObj' W _ _,by simp[World.putObj]⟩
   ·unfold Instr.mapUpdate;simp only[Sem.run_bind,T.hu,hg,Result.andThen_ok,T.ck];show((findKey kt (enc k) es.toList).run qp W).andThen _=_;rw[T.fk k _ L W h2,hr,Result.andThen_ok]
    have hkj:((es[j]?).map (·.key)).getD (enc k)=enc k:=by
     obtain⟨n,e,h5⟩:=findL_at _ _ _ _ _ hr;obtain rfl:j=n:=(by omega);have h6:(es.toList.map (fun e=>(e.key,e.val)))[j]? = some (enc k,v0):=(by rw[h2];simp[h5]);simp only[List.getElem?_map,Array.getElem?_toList,Option.map_eq_some_iff]at h6;obtain⟨e6,h7,h8⟩:=h6;rw[h7];simp only[Option.map_some,Option.getD_some];exact congrArg Prod.fst h8
    simp only[hkj,Sem.run_bind];have:(keyThatStays (enc k) (enc k)).run qp W=.ok (enc k) W:=(by unfold keyThatStays;rw[if_pos (T.sb k)];rfl);rw[this,Result.andThen_ok];show(setObj m _).run qp W=_;unfold setObj;simp[Sem.run,h1,World.putObj]
   ·have:=h2.modify k v j;simpa using this
   ·rw[qez k k' v v0 L 0 j (by rw[hr];simp),h3 k']
end
theorem Yn{B:Nat}{a w:World}(h:Below B a w)(n:Nat):Below B a (w.drewN n):=h.trans ⟨rfl,rfl,rfl,ql,fun _ _=>rfl⟩
theorem qw{w w1 w2:World}{r:Option Nat}(h:w.grownBy w1 r)(k:w1.grownBy w2 r):w.grownBy w2 r :=
 ⟨k.os.trans h.os,k.tape.trans h.tape,k.output.trans h.output,Nat.le_trans h.size k.size,fun b hb hr=>(k.block b (Nat.lt_of_lt_of_le hb h.size) hr).trans (h.block b hb hr)⟩
theorem qo{w w1:World}{r:Option Nat}(h:Below w.heap.size w w1):w.grownBy w1 r:=⟨h.os,h.tape,h.output,h.size,fun k hk _=>h.block k hk⟩
theorem qZ{w w1:World}{m:Nat}(h:w.grownBy w1 (some m)){p:Addr}{v:Value}(hc:w.cell? p=some v)(hp:p.block≠m):w1.cell? p=some v:=h.cell hc (by simpa using hp)
theorem below_grown{B m:Nat}{w w1 w2:World}(h:Below B w w1)(hB:B<=w.heap.size)(k:w1.grownBy w2 (some m))(hm:B<=m):Below B w w2 :=
 ⟨k.os.trans h.os,k.tape.trans h.tape,k.output.trans h.output,Nat.le_trans h.size k.size,fun b hb=>(k.block b (by have:=h.size;omega) (by simp;omega)).trans (h.block b hb)⟩
def ZW(n:Int):Value:=.int .i64 n
theorem YT(k:Int):∀(es:List MapEntry) (L:List (Int×Value)) (i:Nat),yM ZW es L->findNow (.int .i64) (ZW k) es i=some (yw k L i)
 | [],[],_,_=>rfl
 | [],_::_,_,h=>by simp[yM]at h
 | _::_,[],_,h=>by simp[yM]at h
 | e::es,p::L,i,h=>by
   simp only[yM,List.map_cons,List.cons.injEq,Prod.mk.injEq]at h;unfold findNow yw;rw[h.1.1];simp only[ZW,sameNow,if_true];by_cases hk:k=p.1
   ·simp[hk,h.1.2]
   ·have:(k==p.1)=false:=(by simpa using hk);rw[this,if_neg hk];exact YT k es L (i+1) h.2
theorem YS(kt:TypeId)(hu:∀w,(Go.underlying kt).run qp w=.ok (.int .i64) w)(k:Int)(es:List MapEntry)(L:List (Int×Value))(w:World)(h:yM ZW es L):(findKey kt (ZW k) es).run qp w=.ok (yw k L 0) w:=by
 unfold findKey;rw[Sem.run_bind,hu,Result.andThen_ok,YT k es L 0 h];rfl
theorem QJ:MapTy 204 3 4 ZW (.bool false) :=
 ⟨fun _=>by kernel_rfl,fun _ _ _=>by kernel_rfl,YS _ (fun _=>by kernel_rfl),fun _=>by kernel_rfl,fun k=>by simp[ZW,sameBits]⟩
theorem qfp:MapTy 121 3 3 ZW (.int .i64 0) :=
 ⟨fun _=>by kernel_rfl,fun _ _ _=>by kernel_rfl,YS _ (fun _=>by kernel_rfl),fun _=>by kernel_rfl,fun k=>by simp[ZW,sameBits]⟩
section
variable {α:Type} [DecidableEq α] {enc:α->Value} {kt:TypeId}
theorem QT(heq:∀p q w,(Op.equal kt (enc p) (enc q)).run qp w=.ok (decide (p=q)) w)(k:α):∀(es:List MapEntry) (L:List (α×Value)) (i:Nat) (w:World),yM enc es L->(findAsking kt (enc k) es i).run qp w=.ok (yw k L i) w
 | [],[],_,_,_=>rfl
 | [],_::_,_,_,h=>by simp[yM]at h
 | _::_,[],_,_,h=>by simp[yM]at h
 | e::es,p::L,i,w,h=>by
   simp only[yM,List.map_cons,List.cons.injEq,Prod.mk.injEq]at h;unfold findAsking yw;rw[Sem.run_bind,h.1.1,heq,Result.andThen_ok];by_cases hk:k=p.1
   ·rw[if_pos (by simpa using hk),if_pos hk,h.1.2];rfl
   ·rw[if_neg (by simpa using hk),if_neg hk];exact QT heq k es L (i+1) w h.2
theorem XH(fs:Array Field)(hu:∀w,(Go.underlying kt).run qp w=.ok (.struct fs) w)(heq:∀p q w,(Op.equal kt (enc p) (enc q)).run qp w=.ok (decide (p=q)) w)(k:α)(es:List MapEntry)(L:List (α×Value))(w:World)(h:yM enc es L):(findKey kt (enc k) es).run qp w=.ok (yw k L 0) w:=by
 unfold findKey;rw[Sem.run_bind,hu,Result.andThen_ok]
 cases es with
 | nil =>
   cases L with
   | nil=>rfl
   | cons p L=>simp[yM]at h
 | cons e es=>exact QT heq k (e::es) L 0 w h
end
def xC(p:Int×Int):Value:=.agg #[.int .i64 p.1,.int .i64 p.2]
theorem uPair:qp.underlying 199=some (.struct (qp.fieldsOf 199)):=by kernel_rfl
theorem hPair:qp.stoodInHeld 199=false:=by kernel_rfl
theorem xZ{a:Bool}{r:Bool}{x:Sem Bool}{w:World}(h:x.run qp w=.ok r w):(if(!a)=true then(pure false:Sem Bool)else x).run qp w=.ok (a&&r) w:=by
 cases a
 ·rfl
 ·simpa using h
theorem QG{y x:Sem Bool}{a r:Bool}{w:World}(hy:y.run qp w=.ok a w)(h:x.run qp w=.ok r w):(y >>= fun b=>if(!b)=true then(pure false:Sem Bool)else x).run qp w=.ok (a&&r) w:=by
 rw[Sem.run_bind,hy,Result.andThen_ok];exact xZ h
theorem eqPair(p q:Int×Int)(w:World):(Op.equal 199 (xC p) (xC q)).run qp w=.ok (decide (p=q)) w:=by
 obtain⟨a,b⟩:=p;obtain⟨a',b'⟩:=q;show(Op.equalIn (9999+1) 199 _ _).run qp w=_;rw[xC,xC,run_equalIn_agg w 9999 199 _ _ uPair hPair]
 have e1:(Op.eqFields 9999 #[.int .i64 a,.int .i64 b] #[.int .i64 a',.int .i64 b'] (qp.fieldsOf 199).toList.tail).run qp w=.ok (b==b'&&true) w:=by
  exact Eq.trans (by kernel_rfl) (xZ (a:=b==b') (x:=pure true) (r:=true) (w:=w) rfl)
 have e0:=xZ (a:=a==a') e1
 have:(decide ((a,b)=(a',b')))=(a==a'&&(b==b'&&true)):=by
  rw[Bool.eq_iff_iff];simp
 rw[this];exact Eq.trans (by kernel_rfl) e0
theorem qfq:MapTy 197 199 4 xC (.bool false) :=
 ⟨fun _=>by kernel_rfl,fun _ _ _=>by kernel_rfl,XH (qp.fieldsOf 199) (fun _=>by kernel_rfl) eqPair,fun _=>by kernel_rfl,fun k=>by simp[xC,sameBits]⟩
structure SetM where
 p:PastM
 away:Int
 order:Int
 t0:Int
 t1:Int
 t2:Int
deriving DecidableEq
def zf(s:SetM):Value:=.agg #[.int .i64 s.p.a,.int .i64 s.p.b,.int .i64 s.p.c,.int .i64 s.p.d,.int .u64 s.away,.int .i64 s.order,.int .i64 s.t0,.int .i64 s.t1,.int .i64 s.t2]
theorem uSet:qp.underlying 86=some (.struct (qp.fieldsOf 86)):=by kernel_rfl
theorem hSet:qp.stoodInHeld 86=false:=by kernel_rfl
theorem yu(d:Nat)(xs ys:Array Value)(i:Nat)(is:List Nat)(a b:Int)(r:Bool)(w:World)(hx:xs[i]? = some (.int .i64 a))(hy:ys[i]? = some (.int .i64 b))(h:(Op.eqItems (d+1) 3 1 xs ys is).run qp w=.ok r w) :
 (Op.eqItems (d+1) 3 1 xs ys (i::is)).run qp w=.ok (a==b&&r) w:=by
 have px:(part 3 xs (i*1)).run qp w=.ok (.int .i64 a) w:=by rw[Nat.mul_one];exact run_part_plain w (by kernel_rfl) hx
 have py:(part 3 ys (i*1)).run qp w=.ok (.int .i64 b) w:=by rw[Nat.mul_one];exact run_part_plain w (by kernel_rfl) hy
 unfold Op.eqItems;rw[Sem.run_bind,px,Result.andThen_ok,Sem.run_bind,py,Result.andThen_ok];exact QG (by kernel_rfl) h
theorem qaA(d n:Nat)(t:TypeId)(hu:qp.underlying t=some (.array n 3))(xs ys:Array Value)(w:World):(Op.equalIn (d+1) t (.agg xs) (.agg ys)).run qp w=(Op.eqItems d 3 1 xs ys (List.range n)).run qp w:=by
 obtain⟨i,hi⟩:=info_of_underlying (P:=qp) (t:=3) (d:=.int .i64) (by kernel_rfl);have h:=run_equalIn_array (P:=qp) w d xs ys hu hi;rw[show qp.cellsOf 3=1 by kernel_rfl]at h;exact h
theorem qem(d:Nat)(a b c e a' b' c' e':Int)(w:World):(Op.equalIn (d+1+1) 81 (.agg #[.int .i64 a,.int .i64 b,.int .i64 c,.int .i64 e]) (.agg #[.int .i64 a',.int .i64 b',.int .i64 c',.int .i64 e'])).run qp w=.ok (a==a'&&(b==b'&&(c==c'&&(e==e'&&true)))) w :=
 (qaA (d+1) 4 81 (by kernel_rfl) _ _ w).trans (yu d _ _ 0 [1,2,3] a a' _ w rfl rfl (yu d _ _ 1 [2,3] b b' _ w rfl rfl (yu d _ _ 2 [3] c c' _ w rfl rfl (yu d _ _ 3 [] e e' _ w rfl rfl rfl))))
theorem eqTurnV(d:Nat)(a b c a' b' c':Int)(w:World):(Op.equalIn (d+1+1) 84 (.agg #[.int .i64 a,.int .i64 b,.int .i64 c]) (.agg #[.int .i64 a',.int .i64 b',.int .i64 c'])).run qp w=.ok (a==a'&&(b==b'&&(c==c'&&true))) w :=
 (qaA (d+1) 3 84 (by kernel_rfl) _ _ w).trans (yu d _ _ 0 [1,2] a a' _ w rfl rfl (yu d _ _ 1 [2] b b' _ w rfl rfl (yu d _ _ 2 [] c c' _ w rfl rfl rfl)))
section
variable (a b c d e f g h i a' b' c' d' e' f' g' h' i':Int)
def xsS:Array Value:=#[.int .i64 a,.int .i64 b,.int .i64 c,.int .i64 d,.int .u64 e,.int .i64 f,.int .i64 g,.int .i64 h,.int .i64 i]
theorem eqS0(w:World):(Op.eqFields 9999 (xsS a b c d e f g h i) (xsS a' b' c' d' e' f' g' h' i') (qp.fieldsOf 86).toList).run qp w=(Op.equalIn 9999 81 (.agg #[.int .i64 a,.int .i64 b,.int .i64 c,.int .i64 d]) (.agg #[.int .i64 a',.int .i64 b',.int .i64 c',.int .i64 d']) >>= fun r=>if(!r)=true then(pure false:Sem Bool)else Op.eqFields 9999 (xsS a b c d e f g h i) (xsS a' b' c' d' e' f' g' h' i') (qp.fieldsOf 86).toList.tail).run qp w:=by kernel_rfl
theorem eqS1(w:World):(Op.eqFields 9999 (xsS a b c d e f g h i) (xsS a' b' c' d' e' f' g' h' i') (qp.fieldsOf 86).toList.tail).run qp w=(if(!(e==e'))=true then(pure false:Sem Bool)else Op.eqFields 9999 (xsS a b c d e f g h i) (xsS a' b' c' d' e' f' g' h' i') (qp.fieldsOf 86).toList.tail.tail).run qp w:=by kernel_rfl
theorem eqS2(w:World):(Op.eqFields 9999 (xsS a b c d e f g h i) (xsS a' b' c' d' e' f' g' h' i') (qp.fieldsOf 86).toList.tail.tail).run qp w=(if(!(f==f'))=true then(pure false:Sem Bool)else Op.eqFields 9999 (xsS a b c d e f g h i) (xsS a' b' c' d' e' f' g' h' i') (qp.fieldsOf 86).toList.tail.tail.tail).run qp w:=by kernel_rfl
theorem eqS3(w:World):(Op.eqFields 9999 (xsS a b c d e f g h i) (xsS a' b' c' d' e' f' g' h' i') (qp.fieldsOf 86).toList.tail.tail.tail).run qp w=(Op.equalIn 9999 84 (.agg #[.int .i64 g,.int .i64 h,.int .i64 i]) (.agg #[.int .i64 g',.int .i64 h',.int .i64 i']) >>= fun r=>if(!r)=true then(pure false:Sem Bool)else pure true).run qp w:=by kernel_rfl
end
theorem eqSet(p q:SetM)(w:World):(Op.equal 86 (zf p) (zf q)).run qp w=.ok (decide (p=q)) w:=by
 obtain⟨⟨a,b,c,d⟩,e,f,g,h,i⟩:=p;obtain⟨⟨a',b',c',d'⟩,e',f',g',h',i'⟩:=q;show(Op.equalIn (9999+1) 86 (.agg (xsS a b c d e f g h i)) (.agg (xsS a' b' c' d' e' f' g' h' i'))).run qp w=_;rw[run_equalIn_agg w 9999 86 _ _ uSet hSet];have e3:=(eqS3 a b c d e f g h i a' b' c' d' e' f' g' h' i' w).trans (QG (x:=pure true) (r:=true) (eqTurnV 9997 g h i g' h' i' w) rfl);have e2:=(eqS2 a b c d e f g h i a' b' c' d' e' f' g' h' i' w).trans (xZ (a:=f==f') e3);have e1:=(eqS1 a b c d e f g h i a' b' c' d' e' f' g' h' i' w).trans (xZ (a:=e==e') e2);have e0:=(eqS0 a b c d e f g h i a' b' c' d' e' f' g' h' i' w).trans (QG (qem 9997 a b c d a' b' c' d' w) e1)
 have key:(a==a'&&(b==b'&&(c==c'&&(d==d'&&true)))&&(e==e'&&(f==f'&&(g==g'&&(h==h'&&(i==i'&&true))&&true))))=decide ((⟨⟨a,b,c,d⟩,e,f,g,h,i⟩:SetM)=⟨⟨a',b',c',d'⟩,e',f',g',h',i'⟩):=by
  rw[Bool.eq_iff_iff];simp only[decide_eq_true_eq,SetM.mk.injEq,PastM.mk.injEq,Bool.and_eq_true,beq_iff_eq];constructor
  ·rintro⟨⟨h1,h2,h3,h4,_⟩,h5,h6,⟨h7,h8,h9,_⟩,_⟩;simp[*]
  ·rintro⟨⟨h1,h2,h3,h4⟩,h5,h6,h7,h8,h9⟩;simp[*]
 rw[<-key];exact e0
theorem qfr:MapTy 71 86 31 zf (.slice none 0 0) :=
 ⟨fun _=>by kernel_rfl,fun _ _ _=>by kernel_rfl,XH (qp.fieldsOf 86) (fun _=>by kernel_rfl) eqSet,fun _=>by kernel_rfl,fun k=>by simp[zf,sameBits]⟩
theorem qdk(w:World):(Instr.makeMap 204 none).run qp w=.ok (.map (some w.heap.size)) (w.alloc (.map #[] 0)):=by kernel_rfl
theorem qfj(w:World):(Instr.makeMap 121 none).run qp w=.ok (.map (some w.heap.size)) (w.alloc (.map #[] 0)):=by kernel_rfl
theorem qdl(w:World):(Instr.makeMap 197 none).run qp w=.ok (.map (some w.heap.size)) (w.alloc (.map #[] 0)):=by kernel_rfl
theorem qal(w:World):(Instr.makeMap 71 none).run qp w=.ok (.map (some w.heap.size)) (w.alloc (.map #[] 0)):=by kernel_rfl
end Go.Proofs.Tryz
namespace Go.Proofs.Tryz
open Go Go.Load Go.RowKit
theorem qaF{l m:List Int}{k:Nat}{x y:Int}(h1:l[k]? = some x)(h2:m[k]? = some y)(hn:l.take k=m.take k):(l.take (k+1)=m.take (k+1))↔x=y:=by
 obtain⟨a,rfl⟩:=qB h1;obtain⟨b,rfl⟩:=qB h2;rw[List.take_succ_eq_append_getElem a,List.take_succ_eq_append_getElem b,hn];constructor
 ·intro h;have:=(List.append_cancel_left h);simpa using this
 ·intro h;rw[h]
theorem qen(l m:List Int)(a b:Option Addr)(c d:Nat)(hl:l.length<=1000)(hm:m.length<=1000)(hc:l.length<=c)(hd:m.length<=d)(w:World)(hA:qi w 1 encI a l)(hB:qi w 1 encI b m) :
 Calls qp 180 #[.slice a l.length c,.slice b m.length d] w fun e w'=>e=.returned (.bool (decide (l=m)))/\Below w.heap.size w w':=by
 by_cases hlm:l.length=m.length
 ·obtain⟨R,hR⟩:∃R,decide (l=m)=R:=⟨_,rfl⟩;rw[hR];have HR:=qd hR;have HLM:=qd hlm;clear hR;rw[<-hlm]at hd hm⊢;clear hlm;go_enter (sf 180 f180),ntmps180;go_wp2;go_loopw [13] (fun i wr=>∃k:Nat,i=.int .i64 k/\k<=l.length/\Below w.heap.size w wr/\Hid (l.take k=m.take k)) (fun i _=>l.length-(intOf i).toNat);case atStart=>exact⟨0,rfl,Nat.zero_le _,Below.refl _ _,qd (by simp)⟩
  case round =>
   obtain⟨k,rfl,hk,hBr,HN⟩:=hrel;by_cases hlt:k<l.length
   ·obtain⟨x,hx⟩:∃x,l[k]? = some x:=⟨l[k],by simp[hlt]⟩;obtain⟨y,hy⟩:∃x,m[k]? = some x:=⟨m[k]'(by rw[<-HLM.out];exact hlt),by simp⟩;obtain⟨ab,ao,rfl,hP⟩:=hA (by omega);obtain⟨bb,bo,rfl,hQ⟩:=hB (by rw[<-HLM.out];omega);have c0:=qb _ hBr (hP k x hx 0 _ rfl);have c1:=qb _ hBr (hQ k y hy 0 _ rfl);simp only[Nat.mul_one,Nat.add_zero]at c0 c1;have hkc:(k:Int)<=(c:Int):=(by omega);have hkd:(k:Int)<=(d:Int):=(by omega);have hstep:=qaF hx hy HN.out;have HS:=qd hstep;clear hP hQ hx hy hstep;by_cases hxy:x=y
    ·subst hxy;go_wp2;go_quiet (fail);go_wp2;go_roundw;(case rel=>exact⟨k+1,rfl,by omega,Yn hBr _,qd (by simpa using HS.out)⟩);case measure=>simp[intOf];omega
    ·have hne:(x != y)=true:=(by simpa using hxy);go_wp2;go_quiet (fail);go_wp2;go_ret;refine⟨?_,Yn hBr _⟩
     have:R=false:=by
      rw[<-HR.out];simp only[decide_eq_false_iff_not];intro e;exact hxy (HS.out.1 (by rw[e]))
     rw[this];rfl
   ·obtain rfl:k=l.length:=(by omega);go_wp2;go_ret;refine⟨?_,by go_grown⟩
    have:R=true:=by
     rw[<-HR.out];simp only[decide_eq_true_eq];have:=HN.out;rw[List.take_length,HLM.out,List.take_length]at this;exact this
    rw[this];rfl
 ·have hne:((l.length:Int) != (m.length:Int))=true:=by simp;omega
  have hf:decide (l=m)=false:=by simp only[decide_eq_false_iff_not];intro e;rw[e]at hlm;exact hlm rfl
  rw[hf];clear hlm hf hA hB;go_enter (sf 180 f180),ntmps180;go_wp2;go_ret;exact⟨rfl,by go_grown⟩
def QZ(g:GrpM)(t:Int):Option Int:=if t=g.one then some g.two else if t=g.two then some g.one else none
def Xx(D:DayM)(tw:Int):Int->List Int->List Int->Int
 | t,_,[]=>if t=tw then 0 else 9
 | t,ps,k::l=>if btw k 0 (D.gs.length-1)=false then 6 else match D.gs[k.toNat]? with
   | none=>6
   | some g=>match QZ g t with
     | none=>7
     | some n=>if n∈ps then 8 else Xx D tw n (n::ps) l
def qbM(D:DayM)(o:OrdM)(l:List Int):Int:=if btw l.length 1 3=false then 2 else Xx D o.toT o.fr [o.fr] l
def Xr(ps:List Int)(n:Int):Option Value:=if n∈ps then some (.bool true)else none
theorem ZE(ps:List Int)(n:Int):(fun k=>if k=n then some (.bool true)else Xr ps k)=Xr (n::ps):=by
 funext k;unfold Xr;by_cases h:k=n<;>simp[h]
theorem XU(D:DayM)(tw t:Int)(ps:List Int){l:List Int}{k:Nat}{x:Int}(h:l[k]? = some x):Xx D tw t ps (l.drop k)=if btw x 0 (D.gs.length-1)=false then 6 else match D.gs[x.toNat]? with
 | none=>6
 | some g=>match QZ g t with
   | none=>7
   | some n=>if n∈ps then 8 else Xx D tw n (n::ps) (l.drop (k+1)):=by
 obtain⟨hk,rfl⟩:=qB h;rw[List.drop_eq_getElem_cons hk];rfl
theorem B6.grown{w w1:World}{b m:Nat}{x0 x1 x2 x3 x4 x5:Value}(h:B6 w b x0 x1 x2 x3 x4 x5)(hg:w.grownBy w1 (some m))(hn:b≠m):B6 w1 b x0 x1 x2 x3 x4 x5 :=
 ⟨qZ hg h.c0 hn,qZ hg h.c1 hn,qZ hg h.c2 hn,qZ hg h.c3 hn,qZ hg h.c4 hn,qZ hg h.c5 hn⟩
theorem way_any(D:DayM)(m:Option Nat)(o:OrdM)(l:List Int)(a:Option Addr)(c:Nat)(w:World)(h:DayAt w D)(hs:DaySm D)(hl:l.length<=20/\l.length<=c)(hA:qi w 1 encI a l) :
 Calls qp 177 #[dm D m,.agg #[.int .i64 o.fr,.int .i64 o.toT,.slice o.a o.ws.length o.c],.slice a l.length c] w fun e w'=>e=.returned (.int .i64 (qbM D o l))/\Below w.heap.size w w':=by
 have hgs:=h.gs;have hsm:=hs.gs;obtain⟨R,hR⟩:∃R,qbM D o l=R:=⟨_,rfl⟩;rw[hR];unfold qbM at hR;unfold dm;clear h hs;obtain⟨ofr,ow,ows,oa2,oc2⟩:=o;have hdr:=fun t ps k x (hx:l[k]? = some x)=>XU D ow t ps hx;have hnl:∀t ps q,q.length=0->Xx D ow t ps q=if t=ow then 0 else 9:=fun t ps q h=>by cases q with|nil=>rfl|cons _ _=>cases h
 generalize Xx D ow=WG at *
 obtain⟨ts,ta,tc,gs,ga,gc,os,oa,oc,hs,ha,hc,cs,ca,cc⟩:=D
 simp only at *
 generalize Value.slice ta ts.length tc=x1;generalize Value.slice oa os.length oc=x2;generalize Value.slice ha hs.length hc=x3;generalize Value.slice ca cs.length cc=x4;generalize Value.slice oa2 ows.length oc2=x5;have hwi:=zM l.length 1 3;obtain⟨r,hr⟩:∃r,btw l.length 1 3=r:=⟨_,rfl⟩;rw[hr]at hwi hR
 cases r with
 | false =>
   simp at hR;subst hR;clear hgs hA hdr hnl;go_enter (sf 177 f177),ntmps177;go_wp2_with (go_at_call 74;(with_reducible refine(hwi _).mono ?_);rintro e w1 ⟨rfl,rfl⟩);go_ret;exact⟨rfl,by go_grown⟩
 | true =>
   simp at hR;have HR:=qd hR;have HT:=qd hgs;have HA:=qd hA;have HD:=qd hdr;have HN:=qd hnl;clear hR hgs hA hr hdr hnl;go_enter (sf 177 f177),ntmps177;go_wp2_with (go_at_call 74;(with_reducible refine(hwi _).mono ?_);rintro e w1 ⟨rfl,rfl⟩);rw[qdk];go_wp2;obtain⟨W,hW⟩:∃W,((w.alloc (Obj.cells #[x1,.slice ga gs.length gc,x2,x3,x4,.map m] 73)).alloc (Obj.cells #[.int .i64 ofr,.int .i64 ow,x5] 65)).alloc (Obj.map #[] 0)=W:=⟨_,rfl⟩;have h6:B6 W w.heap.size x1 (.slice ga gs.length gc) x2 x3 x4 (.map m):=(by subst hW;exact⟨by go_cell,by go_cell,by go_cell,by go_cell,by go_cell,by go_cell⟩);have h7:W.cell? ⟨w.heap.size+1,1,none⟩=some (.int .i64 ow):=by subst hW;go_cell
   have h8:Qu ZW W (w.heap.size+1+1) (fun _=>none):=by
    have e:=Qu.new (enc:=ZW) ((w.alloc (Obj.cells #[x1,.slice ga gs.length gc,x2,x3,x4,.map m] 73)).alloc (Obj.cells #[.int .i64 ofr,.int .i64 ow,x5] 65));rw[hW]at e;simpa using e
   have hBW:Below w.heap.size w W:=(by subst hW;go_grown);have hzW:w.heap.size+1+1<W.heap.size:=h8.lt;rw[hW];clear hW;obtain⟨W1,q1,q2,q3,q4⟩:=jh QJ h8 ofr (.bool true)
   have q2:Qu ZW W1 (w.heap.size+1+1) (Xr [ofr]):=by
    have e:Xr [ofr]=fun k'=>if k'=ofr then some (.bool true)else none:=(by rw[<-ZE];rfl);rw[e];exact q2
   simp only[ZW]at q1;rw[q1];have hB1:Below w.heap.size w W1:=below_grown hBW ql q3 (by omega);replace h6:=h6.grown q3 (by omega);replace h7:=qZ q3 h7 (by simp<;>omega);rw[<-q4]at hzW;clear q1 q3 q4 h8 hBW;go_wp2;go_loopw [23,7] (fun i q wr=>∃(k:Nat) (t:Int) (ps:List Int),i=.int .i64 k/\q=.int .i64 t/\k<=l.length/\Below w.heap.size w wr/\B6 wr w.heap.size x1 (.slice ga gs.length gc) x2 x3 x4 (.map m)/\wr.cell? ⟨w.heap.size+1,1,none⟩=some (.int .i64 ow)/\Qu ZW wr (w.heap.size+1+1) (Xr ps)/\w.heap.size+1+1<wr.heap.size/\Hid (WG t ps (l.drop k)=R)) (fun i _ _=>l.length-(intOf i).toNat);case atStart=>exact⟨0,ofr,[ofr],rfl,rfl,by omega,hB1,h6,h7,q2,hzW,HR⟩
   case round =>
    clear q2 h6 h7 hzW hB1;obtain⟨k,t,ps,rfl,rfl,hk,hBw,h6,h7,h8,hzr,HE⟩:=hrel;have H8:=qd h8;obtain⟨k0,k1,k2,k3,k4,k5⟩:=h6;have h6:B6 wr w.heap.size x1 (.slice ga gs.length gc) x2 x3 x4 (.map m):=⟨k0,k1,k2,k3,k4,k5⟩;by_cases hlt:k<l.length
    ·obtain⟨x,hx⟩:∃x,l[k]? = some x:=⟨l[k],by simp[hlt]⟩;obtain⟨ab,ao,rfl,hP⟩:=HA.out (by omega);have hkc:(k:Int)<=(c:Int):=(by omega);have c0:=qb _ hBw (hP k x hx 0 _ rfl);simp only[Nat.mul_one,Nat.add_zero]at c0;have hA:=HE.out;rw[HD.out _ _ _ _ hx]at hA;clear hP hx;have hw2:=zM x 0 ((gs.length:Int)-1);have hbt:=qd (@zS x 0 ((gs.length:Int)-1))
     generalize btw x 0 ((gs.length:Int)-1)=r1 at *
     cases r1 with
     | false =>
       have HA:=qd hA;clear hA h8;go_wp2_with (go_at_call 74;(with_reducible refine(hw2 _).mono ?_);rintro e w1 ⟨rfl,rfl⟩);go_ret;exact⟨by have e:=HA.out;simp at e;rw[<-e];rfl,hBw⟩
     | true =>
       obtain⟨hx0,hx1⟩:=hbt.out.1 rfl;obtain⟨n,rfl⟩:=Int.eq_ofNat_of_zero_le hx0;have hng:n<gs.length:=(by omega);obtain⟨g,hx⟩:∃x,gs[n]? = some x:=⟨gs[n],by simp[hng]⟩;obtain⟨b,o,rfl,hP⟩:=HT.out (by omega);have d0:=qb _ hBw (hP n g hx 0 _ rfl);have d1:=qb _ hBw (hP n g hx 1 _ rfl);have d2:=qb _ hBw (hP n g hx 2 _ rfl);have d3:=qb _ hBw (hP n g hx 3 _ rfl);simp only[Nat.add_zero]at d0;have hgc:(n:Int)<=(gc:Int):=(by omega);simp only[Bool.true_eq_false,if_false,Int.toNat_natCast,hx]at hA;clear hP hx hbt;obtain⟨g1,g2,glo,ghi⟩:=g
       simp only at *
       have hBa:Below wr.heap.size wr (wr.alloc (Obj.cells #[.int .i64 g1,.int .i64 g2,.int .i64 glo,.int .i64 ghi] 120)):=(Below.refl _ wr).alloc ql _;by_cases e1:t=g1
       ·subst e1;have hnt:QZ ⟨t,g2,glo,ghi⟩ t=some g2:=(by unfold QZ;rw[if_pos rfl]);simp only[hnt]at hA;have HNT:=qd hnt;clear hnt;by_cases hin:g2∈ps
        ·rw[if_pos hin]at hA;have HA:=qd hA;have hlk:=yH QJ (H8.out.keep hBa) g2 false;simp only[ZW,Xr,if_pos hin,Option.getD_some,Bool.false_eq_true,if_false]at hlk;clear hA h8 hin;go_wp2_with (go_at_call 74;(with_reducible refine(hw2 _).mono ?_);rintro e w1 ⟨rfl,rfl⟩);go_ret;exact⟨by rw[<-HA.out];rfl,by go_grown⟩
        ·rw[if_neg hin]at hA;have HA:=qd hA;have hlk:=yH QJ (H8.out.keep hBa) g2 false;simp only[ZW,Xr,if_neg hin,Option.getD_none,Bool.false_eq_true,if_false]at hlk;obtain⟨W2,q1,q2,q3,q4⟩:=jh QJ (H8.out.keep hBa) g2 (.bool true);rw[ZE]at q2;simp only[ZW]at q1;have hBx:Below w.heap.size w W2:=below_grown (bcl hBw hBa) ql q3 (by omega);have h6x:=(h6.keep hBa).grown q3 (by omega);have h7x:=qZ q3 (qb _ hBa h7) (by simp<;>omega);have hzx:w.heap.size+1+1<W2.heap.size:=(by rw[q4];have:=hBa.size;omega);have H2:=qd q2;clear hA h8 hin q2 q3 q4;go_wp2_with (go_at_call 74;(with_reducible refine(hw2 _).mono ?_);rintro e w1 ⟨rfl,rfl⟩);go_roundw;(case rel=>exact⟨k+1,g2,g2::ps,rfl,rfl,by omega,hBx,h6x,h7x,H2.out,hzx,HA⟩);case measure=>simp[intOf];omega
       by_cases e2:t=g2
       ·subst e2;have hf:(t==g1)=false:=(by simpa using e1);have hnt:QZ ⟨g1,t,glo,ghi⟩ t=some g1:=(by unfold QZ;rw[if_neg e1,if_pos rfl]);simp only[hnt]at hA;have HNT:=qd hnt;clear hnt;by_cases hin:g1∈ps
        ·rw[if_pos hin]at hA;have HA:=qd hA;have hlk:=yH QJ (H8.out.keep hBa) g1 false;simp only[ZW,Xr,if_pos hin,Option.getD_some,Bool.false_eq_true,if_false]at hlk;clear hA h8 hin;go_wp2_with (go_at_call 74;(with_reducible refine(hw2 _).mono ?_);rintro e w1 ⟨rfl,rfl⟩);go_ret;exact⟨by rw[<-HA.out];rfl,by go_grown⟩
        ·rw[if_neg hin]at hA;have HA:=qd hA;have hlk:=yH QJ (H8.out.keep hBa) g1 false;simp only[ZW,Xr,if_neg hin,Option.getD_none,Bool.false_eq_true,if_false]at hlk;obtain⟨W2,q1,q2,q3,q4⟩:=jh QJ (H8.out.keep hBa) g1 (.bool true);rw[ZE]at q2;simp only[ZW]at q1;have hBx:Below w.heap.size w W2:=below_grown (bcl hBw hBa) ql q3 (by omega);have h6x:=(h6.keep hBa).grown q3 (by omega);have h7x:=qZ q3 (qb _ hBa h7) (by simp<;>omega);have hzx:w.heap.size+1+1<W2.heap.size:=(by rw[q4];have:=hBa.size;omega);have H2:=qd q2;clear hA h8 hin q2 q3 q4;go_wp2_with (go_at_call 74;(with_reducible refine(hw2 _).mono ?_);rintro e w1 ⟨rfl,rfl⟩);go_roundw;(case rel=>exact⟨k+1,g1,g1::ps,rfl,rfl,by omega,hBx,h6x,h7x,H2.out,hzx,HA⟩);case measure=>simp[intOf];omega
       have hf:(t==g1)=false:=(by simpa using e1);have hf2:(t==g2)=false:=(by simpa using e2);have hnt:QZ ⟨g1,g2,glo,ghi⟩ t=none:=(by unfold QZ;rw[if_neg e1,if_neg e2]);simp only[hnt]at hA;have HA:=qd hA;clear hA h8 hnt;go_wp2_with (go_at_call 74;(with_reducible refine(hw2 _).mono ?_);rintro e w1 ⟨rfl,rfl⟩);go_ret;exact⟨by rw[<-HA.out];rfl,by go_grown⟩
    ·obtain rfl:k=l.length:=(by omega);have hA:=HE.out;rw[HN.out _ _ _ (by simp)]at hA;have HA:=qd hA;clear hA h8;by_cases htw:t=ow
     ·subst htw;go_wp2;go_ret;exact⟨by have e:=HA.out;simp at e;rw[<-e];rfl,hBw⟩
     ·have hne:(t != ow)=true:=(by simpa using htw);go_wp2;go_ret;exact⟨by have e:=HA.out;simp[htw]at e;rw[<-e];rfl,hBw⟩
end Go.Proofs.Tryz
