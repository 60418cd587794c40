/-
  Lemmas about the program and the machine (D6 to D26), upon which the last text of this claim rests; no condition.
-/
import Derived.Test.YtjkbbnphdbgjiaaGreatDoorEz12
set_option linter.unusedSimpArgs false
set_option linter.unusedVariables false
set_option maxRecDepth 100000
set_option maxHeartbeats 8000000
namespace Go.Proofs.Tryz
open Go Go.Load Go.LoadR Go.RowKit
def metK(os:List OrdM)(k:Nat):List (Int×Int):=((os.take k).map fun o=>(o.fr,o.toT)).reverse
theorem qfi{os:List OrdM}{k:Nat}{o:OrdM}(h:os[k]? = some o):metK os (k+1)=(o.fr,o.toT)::metK os k:=by
 unfold metK;rw[List.take_add_one,h];simp
theorem qao{D:DayM}{k:Nat}{o:OrdM}(h:D.os[k]? = some o):jS D ⟨o.fr,o.toT,0,0,0⟩<k↔(o.fr,o.toT)∈metK D.os k:=by
 obtain⟨hk,rfl⟩:=qB h;unfold metK jS;rw[List.mem_reverse,List.mem_map];constructor
 ·intro h
  cases hf:D.os.findIdx? (yC ⟨D.os[k].fr,D.os[k].toT,0,0,0⟩)with
  | none=>rw[hf]at h;simp only at h;omega
  | some i =>
    rw[hf]at h;obtain⟨hi,hp,_⟩:=List.findIdx?_eq_some_iff_getElem.1 hf;simp only[yC,Bool.and_eq_true,beq_iff_eq]at hp;exact⟨D.os[i],List.mem_take_iff_getElem.2 ⟨i,by simp only at h;omega,rfl⟩,by rw[hp.1,hp.2]⟩
 ·rintro⟨x,hx,he⟩;obtain⟨i,hi,rfl⟩:=List.mem_take_iff_getElem.1 hx;simp only[Prod.mk.injEq]at he
  cases hf:D.os.findIdx? (yC ⟨D.os[k].fr,D.os[k].toT,0,0,0⟩)with
  | none =>
    rw[List.findIdx?_eq_none_iff]at hf;have:=hf D.os[i] (List.getElem_mem _);simp[yC,he.1,he.2]at this
  | some j =>
    obtain⟨hj,hp,hn⟩:=List.findIdx?_eq_some_iff_getElem.1 hf;simp only;refine Nat.lt_of_not_le fun hle=>?_;have:=hn i (by omega);simp[yC,he.1,he.2]at this
theorem qbA(D:DayM)(w:World)(h:DayAt w D)(hs:DaySm D)(hsmall:∀g∈D.gs,(0<=g.one/\g.one<=100)/\(0<=g.two/\g.two<=100)):Calls qp 78 #[dv D] w fun e w'=>e=.returned (.int .i64 (xJ D))/\Below w.heap.size w w':=by
 have hos:=h.os;have hsm:=hs.os;have hlw:∀o:OrdM,o∈D.os->o.ws.length<=20/\o.ws.length<=o.c:=hs.ws;have hwy:=fun(o:OrdM) (ho:o∈D.os) (x:WayM) (hx:x∈o.ws) W (hB:Below w.heap.size w W)=>rway_any D o x.l x.a x.c W (h.keep hB) hs hsmall (hs.ls o ho x hx) ((h.ls o ho x hx).keep hB);have hcb:=fun(o:OrdM) (ho:o∈D.os) (x:WayM) (hx:x∈o.ws) (y:WayM) (hy:y∈o.ws) W (hB:Below w.heap.size w W)=>ZR y.a x.a y.c x.c y.l x.l W ((h.ls o ho y hy).keep hB) ((h.ls o ho x hx).keep hB) (by have:=(hs.ls o ho y hy).1;omega) (by have:=(hs.ls o ho x hx).1;omega) (hs.ls o ho y hy).2 (hs.ls o ho x hx).2;have hor:=fun c W (hB:Below w.heap.size w W)=>ZZ D c W (h.keep hB) hs;have hbf:=fun k o (hx:D.os[k]? = some o)=>qao (D:=D) hx;have hrw:=h.ws;have hen:=fun one two=>Xe D.ta D.ts.length D.tc (by have:=hs.ts.1;omega) (.slice D.ga D.gs.length D.gc) (.slice D.oa D.os.length D.oc) (.slice D.ha D.hs.length D.hc) (.slice D.ca D.cs.length D.cc) one two;obtain⟨R,hR⟩:∃R,xJ D=R:=⟨_,rfl⟩;rw[hR];unfold xJ at hR;have hdr:=fun met k o (hx:D.os[k]? = some o)=>Zb D met hx;have hnl:∀met q,q.length=0->yT D met q=0:=fun met q h=>by cases q with|nil=>rfl|cons _ _=>cases h
 have hoa:∀met o,qfv D met o=(if zZ D.ts.length o.fr o.toT≠0 then zZ D.ts.length o.fr o.toT else if(o.fr,o.toT)∈met then 5 else if 3<o.ws.length then 2 else zA (JG D o) 0 o.ws):=fun _ _=>rfl;have hwa:∀o i x,JG D o i x=(if qbM D o x.l≠0 then qbM D o x.l else if((o.ws.take i).any fun y=>decide (x.l=y.l))=true then 5 else 0):=fun _ _ _=>rfl;have HDR:=qd hdr;have HNL:=qd hnl;have HOA:=qd hoa;have HWA:=qd hwa;have HWY:=qd hwy;have HCB:=qd hcb;have HEN:=qd hen;have HOS:=qd hos;have HRW:=qd hrw;have HLW:=qd hlw;have HOR:=qd hor;have HBF:=qd hbf;clear hdr hnl hoa hwa hwy hcb hen hos hrw h hs hlw hor hbf hsmall
 unfold dv at *
 generalize yT D=OG at *
 generalize qfv D=OA at *
 generalize JG D=WT at *
 generalize qbM D=WA at *
 generalize jS D=IX at *
 obtain⟨ts,ta,tc,gs,ga,gc,os,oa,oc,hs,ha,hc,cs,ca,cc⟩:=D
 simp only at *
 generalize Value.slice ta ts.length tc=x1 at *
 generalize Value.slice ga gs.length gc=x2 at *
 generalize Value.slice ha hs.length hc=x3 at *
 generalize Value.slice ca cs.length cc=x4 at *
 generalize ts.length=N at *
 by_cases hlen:6<os.length
 ·simp[hlen]at hR;subst hR;clear HDR HNL HOA HWA HWY HCB HEN HOS HRW HLW HOR HBF;go_enter (sf 78 f78),ntmps78;go_wp2;go_ret;exact⟨rfl,by go_grown⟩
 ·simp[hlen]at hR;have HR:=qd hR;clear hR;go_enter (sf 78 f78),ntmps78;obtain⟨W,hW⟩:∃W,w.alloc (Obj.cells #[x1,x2,.slice oa os.length oc,x3,x4] 28)=W:=⟨_,rfl⟩;have h5:B5 W w.heap.size x1 x2 (.slice oa os.length oc) x3 x4:=by subst hW;exact B5.new ..
  have hBW:Below w.heap.size w W:=by subst hW;go_grown
  have k1:=h5.c2;go_wp2;try rw[hW]
  clear hW k1;go_loopw [3] (fun i wr=>∃k:Nat,i=.int .i64 k/\k<=os.length/\Below W.heap.size W wr/\Hid (OG (metK os k) (os.drop k)=R)) (fun i _=>os.length-(intOf i).toNat);case atStart=>exact⟨0,rfl,by omega,Below.refl _ _,HR⟩
  case round =>
   obtain⟨k,rfl,hk,hBr,HE⟩:=hrel;obtain⟨k0,k1,k2,k3,k4⟩:=h5.keep hBr;have hBw:=bcl hBW hBr;have hz0:w.heap.size<wr.heap.size:=(by have:=lt_of_cell k0;simpa using this);by_cases hlt:k<os.length
   ·obtain⟨o,hx⟩:∃x,os[k]? = some x:=⟨os[k],by simp[hlt]⟩;obtain⟨ab,ao,rfl,hP⟩:=HOS.out (by omega);have hkc:(k:Int)<=(oc:Int):=(by omega);have c0:=qb _ hBw (hP k o hx 0 _ rfl);have c1:=qb _ hBw (hP k o hx 1 _ rfl);have c2:=qb _ hBw (hP k o hx 2 _ rfl);simp only[Nat.add_zero]at c0;have hom:=qI hx;have hA:=HE.out;rw[HDR.out _ _ _ hx,HOA.out,<-qfi hx]at hA;have hen:=HEN.out o.fr o.toT;have hwy:=fun x hx=>HWY.out o hom x hx;have hcb:=fun x hx=>HCB.out o hom x hx;have hrw:=HRW.out o hom;have hlw:=HLW.out o hom;have hwa:=HWA.out o;have hor:=HOR.out ⟨o.fr,o.toT,0,0,0⟩;have hbf:=HBF.out k o hx;clear hP hx HEN HWY HCB HRW HLW HWA HOA hom HOR HBF;obtain⟨fr,tw,ws,wa,wc⟩:=o
    simp only at *
    generalize zZ N fr tw=E at *
    generalize IX ⟨fr,tw,0,0,0⟩=I at *
    generalize metK os k=ps at *
    obtain⟨R2,hR2⟩:∃r,zA (WT ⟨fr,tw,ws,wa,wc⟩) 0 ws=r:=⟨_,rfl⟩;rw[hR2]at hA;have HR2:=qd hR2;have HA:=qd hA;have HCB:=qd hcb;have HWY:=qd hwy;have HRW:=qd hrw;have HWA:=qd hwa;have HOR:=qd hor;have HBF:=qd hbf;clear hA hcb hwy hrw hwa hor hbf hR2;go_upto_region 7 with fail;obtain⟨U,hU⟩:∃U,wr.alloc (Obj.cells #[.int .i64 fr,.int .i64 tw,.slice wa ws.length wc] 65)=U:=⟨_,rfl⟩;have hBU:Below wr.heap.size wr U:=(by subst hU;go_grown);have q5:U.cell? ⟨wr.heap.size,0,none⟩=some (.int .i64 fr):=(by subst hU;go_cell);have q6:U.cell? ⟨wr.heap.size,1,none⟩=some (.int .i64 tw):=(by subst hU;go_cell);have q7:U.cell? ⟨wr.heap.size,2,none⟩=some (.slice wa ws.length wc):=(by subst hU;go_cell);rw[hU];clear hU c0 c1 c2;have hBwU:=bcl hBw hBU;have hBrU:=bcl hBr hBU;have k0:=qb _ hBU k0;have k1:=qb _ hBU k1;have k2:=qb _ hBU k2;have k3:=qb _ hBU k3;have k4:=qb _ hBU k4;clear hBU;by_cases hE:E=0;rotate_left 1
    ·have hne:(E != 0)=true:=(by simpa using hE);have HA2:=HA;go_wp2_with (go_at_call 107;(with_reducible refine(hen _).mono ?_);rintro e w1 ⟨rfl,hB1⟩;have hBwU:=bcl hBwU hB1);go_ret;exact⟨by have e:=HA2.out;rw[if_pos hE,if_pos hE]at e;rw[<-e];rfl,hBwU⟩
    subst hE;go_upto_region 10 with(go_at_call 107;(with_reducible refine(hen _).mono ?_);rintro e w1 ⟨rfl,hB1⟩);have hBwU:=bcl hBwU hB1;have hBrU:=bcl hBrU hB1;replace k0:=qb _ hB1 k0;replace k1:=qb _ hB1 k1;replace k2:=qb _ hB1 k2;replace k3:=qb _ hB1 k3;replace k4:=qb _ hB1 k4;replace q5:=qb _ hB1 q5;replace q6:=qb _ hB1 q6;replace q7:=qb _ hB1 q7;clear hB1 hen;have hA:=HA.out;simp only[ne_eq,not_true_eq_false,if_false]at hA;by_cases hin:(fr,tw)∈ps
    ·rw[if_pos hin]at hA;have HA:=qd hA;have hI:(I:Int)<(k:Int):=(by have:=HBF.out.2 hin;omega);clear hA hin;go_wp2_with (go_at_call 109;(with_reducible refine(HOR.out _ hBwU).mono ?_);rintro e w2 ⟨rfl,hB2⟩);go_ret;exact⟨by have e:=HA.out;simp at e;rw[<-e];rfl,bcl hBwU hB2⟩
    rw[if_neg hin]at hA;have hI:¬(I:Int)<(k:Int):=fun h=>hin (HBF.out.1 (by omega));clear hin;by_cases hl3:3<ws.length
    ·rw[if_pos hl3]at hA;have HA:=qd hA;clear hA;go_upto_region 12 with(go_at_call 109;(with_reducible refine(HOR.out _ hBwU).mono ?_);rintro e w2 ⟨rfl,hB2⟩);have hBwU:=bcl hBwU hB2;have q7:=qb _ hB2 q7;clear hI;go_wp2;go_ret;exact⟨by have e:=HA.out;simp at e;rw[<-e];rfl,hBwU⟩
    rw[if_neg hl3]at hA;have HA:=qd hA;clear hA;go_upto_region 12 with(go_at_call 109;(with_reducible refine(HOR.out _ hBwU).mono ?_);rintro e w2 ⟨rfl,hB2⟩);have hBwU:=bcl hBwU hB2;have hBrU:=bcl hBrU hB2;replace k0:=qb _ hB2 k0;replace k1:=qb _ hB2 k1;replace k2:=qb _ hB2 k2;replace k3:=qb _ hB2 k3;replace k4:=qb _ hB2 k4;replace q5:=qb _ hB2 q5;replace q6:=qb _ hB2 q6;replace q7:=qb _ hB2 q7;clear hB2 hI;go_wp2;have hwsl:ws.length<=3:=(by omega);have hII:decide (I<k)=false:=decide_eq_false (by omega);(try rw[hII]);clear hII;obtain⟨V,hV⟩:∃V,V=wr:=⟨_,rfl⟩;subst hV;obtain⟨W2,hW2⟩:∃W2,W2=w2:=⟨_,rfl⟩;subst hW2;go_loopw [6] (fun i wr=>∃j:Nat,i=.int .i64 j/\j<=ws.length/\Below W2.heap.size W2 wr/\Hid (zA (WT ⟨fr,tw,ws,wa,wc⟩) j (ws.drop j)=R2)) (fun i _=>ws.length-(intOf i).toNat);case atStart=>exact⟨0,rfl,by omega,Below.refl _ _,HR2⟩
    case round =>
     obtain⟨j,rfl,hj,hBr2,HF⟩:=hrel;replace k0:=qb _ hBr2 k0;replace k1:=qb _ hBr2 k1;replace k2:=qb _ hBr2 k2;replace k3:=qb _ hBr2 k3;replace k4:=qb _ hBr2 k4;replace q5:=qb _ hBr2 q5;replace q6:=qb _ hBr2 q6;replace q7:=qb _ hBr2 q7;have hBy:=bcl hBwU hBr2;have hBz:=bcl hBrU hBr2;by_cases hlj:j<ws.length
     ·obtain⟨x,hx⟩:∃x,ws[j]? = some x:=⟨ws[j],by simp[hlj]⟩;obtain⟨bb,bo,rfl,hP⟩:=HRW.out (by show 1<=ws.length;omega);have hjc:(j:Int)<=(wc:Int):=(by have:=hlw.2;omega);have hji:(j:Int)<(ws.length:Int):=(by omega);have d0:=qb _ hBy (hP j x hx 0 _ rfl);simp only[Nat.mul_one,Nat.add_zero]at d0;have HX:=qd hx;have HD0:=qd (fun(i:Nat) (y:WayM) (hy:ws[i]? = some y)=>hP i y hy 0 _ rfl);have hF:=HF.out;rw[zT _ hx,HWA.out]at hF;have hwy:=HWY.out x (qI hx);have hcb:=fun y hy=>HCB.out x (qI hx) y hy;clear hP hx;(try simp only at hwy);(try simp only at hcb);try simp only at hF
      generalize WA ⟨fr,tw,ws,some ⟨bb,bo,none⟩,wc⟩ x.l=A at *
      have HF:=qd hF;have HWX:=qd hwy;have HCX:=qd hcb;clear hF hwy hcb;have hS0:RH9 wr ⟨w.heap.size,0,none⟩ ⟨w.heap.size,1,none⟩ ⟨w.heap.size,2,none⟩ ⟨w.heap.size,3,none⟩ ⟨w.heap.size,4,none⟩ ⟨V.heap.size,0,none⟩ ⟨V.heap.size,1,none⟩ ⟨V.heap.size,2,none⟩ ⟨bb,bo+j,none⟩ x1 x2 (.slice (some ⟨ab,ao,none⟩) os.length oc) x3 x4 (.int .i64 fr) (.int .i64 tw) (.slice (some ⟨bb,bo,none⟩) ws.length wc) (.slice x.a x.l.length x.c) wr:=⟨k0,k1,k2,k3,k4,q5,q6,q7,d0,Below.refl _ _⟩;go_upto_region 17 with fail;refine wp_region_held_drew (S:=(RH9 wr ⟨w.heap.size,0,none⟩ ⟨w.heap.size,1,none⟩ ⟨w.heap.size,2,none⟩ ⟨w.heap.size,3,none⟩ ⟨w.heap.size,4,none⟩ ⟨V.heap.size,0,none⟩ ⟨V.heap.size,1,none⟩ ⟨V.heap.size,2,none⟩ ⟨bb,bo+j,none⟩ x1 x2 (.slice (some ⟨ab,ao,none⟩) os.length oc) x3 x4 (.int .i64 fr) (.int .i64 tw) (.slice (some ⟨bb,bo,none⟩) ws.length wc) (.slice x.a x.l.length x.c))) (by kernel_rfl) (by exact RHL.drew hS0) (fun hHeld=>?_);refine tk 0 ?_;refine tk 1 ?_;refine tk 2 ?_;refine tk 3 ?_;refine tk 4 ?_;refine tk 5 ?_;refine tk 6 ?_;refine tk 7 ?_;refine tk 8 ?_;(refine tk 9 ?_;try simp only[zs,Act.put]);refine tkR 10 fun K hK=>?_;go_simp;go_wp2_with (go_at_call 110;(with_reducible refine(HWX.out _ (bcl hBy (RHL.bel hHeld))).mono ?_);rintro e w3 ⟨rfl,hB3⟩);refine hK.out _ _ (by exact RHL.call hHeld hB3) (fun hHeldN=>?_);clear hK K hHeld;have hHeld:=hHeldN;clear hHeldN;(try simp only[zs,Act.put]);(refine tk 11 ?_;try simp only[zs,Act.put]);refine wpAnyH_done (by kernel_rfl) ?_ _;try simp only[zs,Act.put]
      have hB4:=RHL.bel hHeld;clear hHeld hS0 hB3;have hBy3:=bcl hBy hB4;have hBz3:=bcl hBz hB4;have hBr3:=bcl hBr2 hB4;replace k0:=qb _ hB4 k0;replace k1:=qb _ hB4 k1;replace k2:=qb _ hB4 k2;replace k3:=qb _ hB4 k3;replace k4:=qb _ hB4 k4;replace q5:=qb _ hB4 q5;replace q6:=qb _ hB4 q6;replace q7:=qb _ hB4 q7;clear hB4 d0;by_cases hA0:A=0;rotate_left 1
      ·have hne2:(A != 0)=true:=(by simpa using hA0);go_wp2;go_ret
       exact⟨by have e:=HF.out
                rw[if_pos hA0,if_pos hA0]at e;have e2:=HA.out;rw[<-e,if_pos hA0]at e2;rw[<-e2];rfl,hBy3⟩
      subst hA0;go_upto_region 20 with fail;go_wp2;obtain⟨V3,hV3⟩:∃V3,V3=w3:=⟨_,rfl⟩;subst hV3;obtain⟨wo,hwo⟩:∃X,X=wr:=⟨_,rfl⟩;subst hwo;go_loopw [8] (fun i wr=>∃m:Nat,i=.int .i64 m/\m<=j/\Below V3.heap.size V3 wr/\Hid (∀(i:Nat) (y:WayM),i<m->ws[i]? = some y->¬x.l=y.l)) (fun i _=>j-(intOf i).toNat);case atStart=>exact⟨0,rfl,by omega,Below.refl _ _,qd fun i y hi=>absurd hi (Nat.not_lt_zero _)⟩
      case round =>
       obtain⟨m,rfl,hm,hBr4,HM⟩:=hrel;replace k0:=qb _ hBr4 k0;replace k1:=qb _ hBr4 k1;replace k2:=qb _ hBr4 k2;replace k3:=qb _ hBr4 k3;replace k4:=qb _ hBr4 k4;replace q5:=qb _ hBr4 q5;replace q6:=qb _ hBr4 q6;replace q7:=qb _ hBr4 q7;have hBy4:=bcl hBy3 hBr4;by_cases hmj:m<j
       ·obtain⟨y,hy⟩:∃y,ws[m]? = some y:=⟨ws[m]'(by omega),qM _⟩;have e0:=qb _ hBy4 (HD0.out m y hy);have e1:=qb _ hBy4 (HD0.out j x HX.out);simp only[Nat.mul_one,Nat.add_zero]at e0 e1;have hmc:(m:Int)<=(wc:Int):=(by omega);have hmi:(m:Int)<(ws.length:Int):=(by omega);have hmj2:(m:Int)<(j:Int):=(by omega);have hsn:=HCX.out y (qI hy)
        have HMM:=fun(hne:¬x.l=y.l)=>(qd (fun(i:Nat) (y':WayM) (hi:i<m+1) (hy':ws[i]? = some y')=>by
         rcases Nat.lt_succ_iff_lt_or_eq.1 hi with h1|rfl
         ·exact HM.out i y' h1 hy'
         ·rw[hy]at hy';cases hy';exact hne):Hid (∀(i:Nat) (y':WayM),i<m+1->ws[i]? = some y'->¬x.l=y'.l))
        have hany:y.l=x.l->((ws.take j).any fun y=>decide (x.l=y.l))=true:=fun h=>List.any_eq_true.2 ⟨y,List.mem_take_iff_getElem.2 ⟨m,by omega,(qB hy).2⟩,by simp[h]⟩;have HSN:=qd hsn;have HAN:=qd hany;have HMS:=qd HMM;have hdec:∀q,decide (y.l=x.l)=q->(q=true->y.l=x.l)/\(q=false->¬x.l=y.l):=fun q h=>(by subst h;exact⟨fun h=>by simpa using h,fun h e=>by simp[e]at h⟩);obtain⟨q,hq⟩:∃q,decide (y.l=x.l)=q:=⟨_,rfl⟩;have HDC:=qd (hdec q hq);simp only[hq]at HSN;clear hsn hany HMM hdec hq hy;have hS1:RH3 wr ⟨V.heap.size,2,none⟩ ⟨bb,bo+m,none⟩ ⟨bb,bo+j,none⟩ (.slice (some ⟨bb,bo,none⟩) ws.length wc) (.slice y.a y.l.length y.c) (.slice x.a x.l.length x.c) wr:=⟨q7,e0,e1,Below.refl _ _⟩;go_upto_region 23 with fail;refine wp_region_held_drew (S:=(RH3 wr ⟨V.heap.size,2,none⟩ ⟨bb,bo+m,none⟩ ⟨bb,bo+j,none⟩ (.slice (some ⟨bb,bo,none⟩) ws.length wc) (.slice y.a y.l.length y.c) (.slice x.a x.l.length x.c))) (by kernel_rfl) (by exact RHL.drew hS1) (fun hHeld=>?_);refine tk 0 ?_;refine tk 1 ?_;refine tk 2 ?_;refine tk 3 ?_;refine tk 4 ?_;refine tk 5 ?_;refine tk 6 ?_;refine tk 7 ?_;refine tk 8 ?_;(refine tk 9 ?_;try simp only[zs,Act.put]);refine tkR 10 fun K hK=>?_;go_simp;go_wp2_with (go_at_call 11;(with_reducible refine(HSN.out _ (bcl hBy4 (RHL.bel hHeld))).mono ?_);rintro e w4 ⟨rfl,hB3⟩);refine hK.out _ _ (by exact RHL.call hHeld hB3) (fun hHeldN=>?_);clear hK K hHeld;have hHeld:=hHeldN;clear hHeldN;(try simp only[zs,Act.put]);refine wpAnyH_done (by kernel_rfl) ?_ _;(try simp only[zs,Act.put]);have hB4:=RHL.bel hHeld
        clear hHeld hS1 hB3 e0 e1;have hBy5:=bcl hBy4 hB4;have hBr5:=bcl hBr4 hB4;clear hB4
        cases q with
        | true =>
          have h5:=HAN.out (HDC.out.1 rfl);have hF:=HF.out;rw[h5]at hF;have HF:=qd hF;clear hF h5;go_wp2;go_ret;exact⟨by have e:=HF.out;simp at e;have e2:=HA.out;rw[<-e]at e2;simp at e2;rw[<-e2];rfl,hBy5⟩
        | false =>
          have HM2:=HMS.out (HDC.out.2 rfl);go_wp2;go_roundw;(case rel=>exact⟨m+1,rfl,by omega,hBr5,HM2⟩);case measure=>simp[intOf];omega
       ·obtain rfl:m=j:=by omega
        have hany:((ws.take m).any fun y=>decide (x.l=y.l))=false:=by
         rw[List.any_eq_false];intro y hy;obtain⟨i,hi,rfl⟩:=List.mem_take_iff_getElem.1 hy;have:=HM.out i _ (by omega) (qM (by omega));simpa using this
        have hF:=HF.out;rw[hany]at hF;have HF:=qd hF;clear hF hany;have hBr6:=bcl hBr3 hBr4;obtain⟨X,hX⟩:∃X,X=wr:=⟨_,rfl⟩;subst hX;go_wp2;go_roundw;(case rel=>exact⟨m+1,rfl,by omega,hBr6,qd (by simpa using HF.out)⟩);case measure=>simp[intOf];omega
     ·obtain rfl:j=ws.length:=(by omega);have hF:=HF.out;rw[List.drop_eq_nil_of_le ql]at hF;have hF0:R2=0:=hF.symm;have hA:=HA.out;rw[hF0]at hA;have HA:=qd hA;clear hF hA;obtain⟨X,hX⟩:∃X,X=wr:=⟨_,rfl⟩;subst hX;go_wp2;go_roundw;(case rel=>exact⟨k+1,rfl,by omega,hBz,qd (by simpa using HA.out)⟩);case measure=>simp[intOf];omega
   ·obtain rfl:k=os.length:=(by omega);have hA:=HE.out;rw[HNL.out _ _ (by simp)]at hA;have HA:=qd hA;clear hA;go_wp2;go_ret;exact⟨by rw[<-HA.out];rfl,hBw⟩
theorem small_of{D:DayM}(hs:DaySm D)(h:yz D=0):∀g∈D.gs,(0<=g.one/\g.one<=100)/\(0<=g.two/\g.two<=100):=fun g hg=>by
 unfold yz at h;by_cases hl:4<D.gs.length
 ·rw[if_pos hl]at h;cases h
 ·rw[if_neg hl]at h;obtain⟨_,hz⟩:=xD _ _ _ h g hg;have htl:=hs.ts.1;unfold grpA at hz;by_cases he:zZ D.ts.length g.one g.two=0
  ·unfold zZ at he;by_cases hb:(btw g.one 0 (D.ts.length-1)&&btw g.two 0 (D.ts.length-1))=false
   ·rw[if_pos hb]at he;cases he
   ·simp only[Bool.not_eq_false,Bool.and_eq_true,zS]at hb;omega
  ·rw[if_pos he]at hz;exact absurd hz he
theorem JA(D:DayM)(w:World)(h:DayAt w D)(hs:DaySm D):Calls qp 26 #[dv D] w fun e w'=>e=.returned (.int .i64 (checkN D))/\Below w.heap.size w w':=by
 have h0:=fun W (hB:Below w.heap.size w W)=>qdG D W (h.keep hB) hs;have h1:=fun W (hB:Below w.heap.size w W)=>qbz D W (h.keep hB) hs;have h2:=fun(hg:yz D=0) W (hB:Below w.heap.size w W)=>qbA D W (h.keep hB) hs (small_of hs hg);have h3:=fun W (hB:Below w.heap.size w W)=>qdD D W (h.keep hB) hs;have h4:=fun W (hB:Below w.heap.size w W)=>qdw D W (h.keep hB) hs;unfold checkN
 generalize QB D=a0 at *
 generalize yz D=a1 at *
 generalize xJ D=a2 at *
 generalize jN D=a3 at *
 generalize Qy D=a4 at *
 unfold dv at *
 clear h hs;obtain⟨ts,ta,tc,gs,ga,gc,os,oa,oc,hs,ha,hc,cs,ca,cc⟩:=D
 simp only at *
 obtain⟨W,hW⟩:∃W,w.alloc (Obj.cells #[.slice ta ts.length tc,.slice ga gs.length gc,.slice oa os.length oc,.slice ha hs.length hc,.slice ca cs.length cc] 28)=W:=⟨_,rfl⟩;have h5:B5 W w.heap.size (.slice ta ts.length tc) (.slice ga gs.length gc) (.slice oa os.length oc) (.slice ha hs.length hc) (.slice ca cs.length cc):=by subst hW;exact B5.new ..
 have hBw:Below w.heap.size w W:=by subst hW;go_grown
 obtain⟨k0,k1,k2,k3,k4⟩:=h5;have H0:=qd h0;have H1:=qd h1;have H2:=qd h2;have H3:=qd h3;have H4:=qd h4;clear h0 h1 h2 h3 h4;obtain⟨R,hR⟩:∃R,(if a0≠0 then a0 else if a1≠0 then a1 else if a2≠0 then a2 else if a3≠0 then a3 else a4)=R:=⟨_,rfl⟩;rw[hR];have HR:=qd hR;clear hR;go_enter (sf 26 f26),ntmps26;go_upto_region 1 with fail;try rw[hW]
 clear hW;by_cases za0:a0=0;rotate_left 1
 ·have hne:(a0 != 0)=true:=by simpa using za0
  have hR:=HR.out;rw[if_pos (by simpa using za0)]at hR;have HR2:=qd hR;clear hR za0;go_wp2_with (go_at_call 76;(with_reducible refine(H0.out _ hBw).mono ?_);rintro e w1 ⟨rfl,hB1⟩;replace k0:=qb _ hB1 k0;replace k1:=qb _ hB1 k1;replace k2:=qb _ hB1 k2;replace k3:=qb _ hB1 k3;replace k4:=qb _ hB1 k4;replace hBw:=bcl hBw hB1;clear hB1);go_ret;exact⟨by rw[<-HR2.out];rfl,hBw⟩
 subst za0;replace HR:=qd (HR.out.symm.trans (if_neg (by simp))).symm;skip;go_upto_region 4 with(go_at_call 76;(with_reducible refine(H0.out _ hBw).mono ?_);rintro e w1 ⟨rfl,hB1⟩;replace k0:=qb _ hB1 k0;replace k1:=qb _ hB1 k1;replace k2:=qb _ hB1 k2;replace k3:=qb _ hB1 k3;replace k4:=qb _ hB1 k4;replace hBw:=bcl hBw hB1;clear hB1);by_cases za1:a1=0;rotate_left 1
 ·have hne:(a1 != 0)=true:=by simpa using za1
  have hR:=HR.out;rw[if_pos (by simpa using za1)]at hR;have HR2:=qd hR;clear hR za1;go_wp2_with (go_at_call 77;(with_reducible refine(H1.out _ hBw).mono ?_);rintro e w1 ⟨rfl,hB1⟩;replace k0:=qb _ hB1 k0;replace k1:=qb _ hB1 k1;replace k2:=qb _ hB1 k2;replace k3:=qb _ hB1 k3;replace k4:=qb _ hB1 k4;replace hBw:=bcl hBw hB1;clear hB1);go_ret;exact⟨by rw[<-HR2.out];rfl,hBw⟩
 subst za1;replace HR:=qd (HR.out.symm.trans (if_neg (by simp))).symm;replace H2:=qd (H2.out rfl);go_upto_region 7 with(go_at_call 77;(with_reducible refine(H1.out _ hBw).mono ?_);rintro e w1 ⟨rfl,hB1⟩;replace k0:=qb _ hB1 k0;replace k1:=qb _ hB1 k1;replace k2:=qb _ hB1 k2;replace k3:=qb _ hB1 k3;replace k4:=qb _ hB1 k4;replace hBw:=bcl hBw hB1;clear hB1);by_cases za2:a2=0;rotate_left 1
 ·have hne:(a2 != 0)=true:=by simpa using za2
  have hR:=HR.out;rw[if_pos (by simpa using za2)]at hR;have HR2:=qd hR;clear hR za2;go_wp2_with (go_at_call 78;(with_reducible refine(H2.out _ hBw).mono ?_);rintro e w1 ⟨rfl,hB1⟩;replace k0:=qb _ hB1 k0;replace k1:=qb _ hB1 k1;replace k2:=qb _ hB1 k2;replace k3:=qb _ hB1 k3;replace k4:=qb _ hB1 k4;replace hBw:=bcl hBw hB1;clear hB1);go_ret;exact⟨by rw[<-HR2.out];rfl,hBw⟩
 subst za2;replace HR:=qd (HR.out.symm.trans (if_neg (by simp))).symm;skip;go_upto_region 10 with(go_at_call 78;(with_reducible refine(H2.out _ hBw).mono ?_);rintro e w1 ⟨rfl,hB1⟩;replace k0:=qb _ hB1 k0;replace k1:=qb _ hB1 k1;replace k2:=qb _ hB1 k2;replace k3:=qb _ hB1 k3;replace k4:=qb _ hB1 k4;replace hBw:=bcl hBw hB1;clear hB1);by_cases za3:a3=0;rotate_left 1
 ·have hne:(a3 != 0)=true:=by simpa using za3
  have hR:=HR.out;rw[if_pos (by simpa using za3)]at hR;have HR2:=qd hR;clear hR za3;go_wp2_with (go_at_call 79;(with_reducible refine(H3.out _ hBw).mono ?_);rintro e w1 ⟨rfl,hB1⟩;replace k0:=qb _ hB1 k0;replace k1:=qb _ hB1 k1;replace k2:=qb _ hB1 k2;replace k3:=qb _ hB1 k3;replace k4:=qb _ hB1 k4;replace hBw:=bcl hBw hB1;clear hB1);go_ret;exact⟨by rw[<-HR2.out];rfl,hBw⟩
 subst za3;replace HR:=qd (HR.out.symm.trans (if_neg (by simp))).symm;skip;go_upto_region 13 with(go_at_call 79;(with_reducible refine(H3.out _ hBw).mono ?_);rintro e w1 ⟨rfl,hB1⟩;replace k0:=qb _ hB1 k0;replace k1:=qb _ hB1 k1;replace k2:=qb _ hB1 k2;replace k3:=qb _ hB1 k3;replace k4:=qb _ hB1 k4;replace hBw:=bcl hBw hB1;clear hB1);go_wp2_with (go_at_call 80;(with_reducible refine(H4.out _ hBw).mono ?_);rintro e w1 ⟨rfl,hB1⟩;replace k0:=qb _ hB1 k0;replace k1:=qb _ hB1 k1;replace k2:=qb _ hB1 k2;replace k3:=qb _ hB1 k3;replace k4:=qb _ hB1 k4;replace hBw:=bcl hBw hB1;clear hB1);go_ret;exact⟨by rw[<-HR.out];rfl,hBw⟩
def ZY(D:DayM):Bool:=decide (20<D.ts.length)||decide (20<D.gs.length)||decide (20<D.os.length)||decide (20<D.hs.length)||decide (20<D.cs.length)||(D.ts.any fun s=>decide (100<s.size))||(D.os.any fun o=>decide (20<o.ws.length)||o.ws.any fun x=>decide (20<x.l.length))
structure DayCap (D:DayM):Prop where
 ts:D.ts.length<=D.tc
 gs:D.gs.length<=D.gc
 os:D.os.length<=D.oc
 ws:∀o∈D.os,o.ws.length<=o.c
 ls:∀o∈D.os,∀x∈o.ws,x.l.length<=x.c
 hs:D.hs.length<=D.hc
 cs:D.cs.length<=D.cc
theorem qch{D:DayM}(h:ZY D=false)(hc:DayCap D):DaySm D:=by
 unfold ZY at h;simp only[Bool.or_eq_false_iff,decide_eq_false_iff_not,List.any_eq_false,Bool.or_eq_true,decide_eq_true_eq,not_or,List.any_eq_true,not_exists,not_and]at h;obtain⟨⟨⟨⟨⟨⟨a,b⟩,c⟩,d⟩,e⟩,f⟩,g⟩:=h;exact⟨⟨by omega,hc.ts⟩,fun s hs=>by have:=f s hs;omega,⟨by omega,hc.gs⟩,⟨by omega,hc.os⟩,fun o ho=>⟨by have:=(g o ho).1;omega,hc.ws o ho⟩,fun o ho x hx=>⟨by have:=(g o ho).2 x hx;omega,hc.ls o ho x hx⟩,⟨by omega,hc.hs⟩,⟨by omega,hc.cs⟩⟩
theorem qdS(D:DayM)(w:World)(h:DayAt w D)(hcap:DayCap D):Calls qp 7 #[dv D] w fun e w'=>e=.returned (.bool (ZY D))/\Below w.heap.size w w':=by
 have hts:=h.ts;have hos:=h.os;have hws:=h.ws;have ct:=hcap.ts;have co:=hcap.os;have cw:=hcap.ws;obtain⟨R,hR⟩:∃R,ZY D=R:=⟨_,rfl⟩;rw[hR];unfold ZY at hR;unfold dv;clear h hcap;obtain⟨ts,ta,tc,gs,ga,gc,os,oa,oc,hs,ha,hc,cs,ca,cc⟩:=D
 simp only at *
 have HT:=qd hts;have HO:=qd hos;have HW:=qd hws;have HCW:=qd cw;have HR:=qd hR;clear hts hos hws cw hR;go_enter (sf 7 f7),ntmps7;obtain⟨W,hW⟩:∃W,w.alloc (Obj.cells #[.slice ta ts.length tc,.slice ga gs.length gc,.slice oa os.length oc,.slice ha hs.length hc,.slice ca cs.length cc] 28)=W:=⟨_,rfl⟩;have h5:B5 W w.heap.size (.slice ta ts.length tc) (.slice ga gs.length gc) (.slice oa os.length oc) (.slice ha hs.length hc) (.slice ca cs.length cc):=by subst hW;exact B5.new ..
 have hBw:Below w.heap.size w W:=by subst hW;go_grown
 obtain⟨k0,k1,k2,k3,k4⟩:=h5;go_upto_region 1 with fail;try rw[hW]
 clear hW;by_cases lt:20<ts.length
 ·have hi:(20:Int)<(ts.length:Int):=by omega
  have hz:true=R:=by rw[<-HR.out];simp[lt]
  subst hz;go_wp2;go_ret;exact⟨rfl,hBw⟩
 have it:¬(20:Int)<(ts.length:Int):=by omega
 by_cases lg:20<gs.length
 ·have hi:(20:Int)<(gs.length:Int):=by omega
  have hz:true=R:=by rw[<-HR.out];simp[lg]
  subst hz;go_wp2;go_ret;exact⟨rfl,hBw⟩
 have ig:¬(20:Int)<(gs.length:Int):=by omega
 by_cases lo:20<os.length
 ·have hi:(20:Int)<(os.length:Int):=by omega
  have hz:true=R:=by rw[<-HR.out];simp[lo]
  subst hz;go_wp2;go_ret;exact⟨rfl,hBw⟩
 have io:¬(20:Int)<(os.length:Int):=by omega
 by_cases lh:20<hs.length
 ·have hi:(20:Int)<(hs.length:Int):=by omega
  have hz:true=R:=by rw[<-HR.out];simp[lh]
  subst hz;go_wp2;go_ret;exact⟨rfl,hBw⟩
 have ih:¬(20:Int)<(hs.length:Int):=by omega
 by_cases lc:20<cs.length
 ·have hi:(20:Int)<(cs.length:Int):=by omega
  have hz:true=R:=by rw[<-HR.out];simp[lc]
  subst hz;go_wp2;go_ret;exact⟨rfl,hBw⟩
 have ic:¬(20:Int)<(cs.length:Int):=by omega
 go_upto_region 4 with fail;clear it ig io ih ic;have HR2:Hid ((ts.any fun s=>decide (100<s.size))=true->true=R):=qd fun h=>by rw[<-HR.out,h];simp
 have HR3:Hid ((os.any fun o=>decide (20<o.ws.length)||o.ws.any fun x=>decide (20<x.l.length))=true->true=R):=qd fun h=>by rw[<-HR.out,h];simp
 have HR4:Hid ((ts.any fun s=>decide (100<s.size))=false->(os.any fun o=>decide (20<o.ws.length)||o.ws.any fun x=>decide (20<x.l.length))=false->false=R):=qd fun h1 h2=>by rw[<-HR.out,h1,h2];simp;omega
 have lo:=lo;clear HR lg lh lc;go_loopw [3] (fun i wr=>∃k:Nat,i=.int .i64 k/\k<=ts.length/\wr=W/\Hid (∀(j:Nat) s,j<k->ts[j]? = some s->decide (100<s.size)=false)) (fun i _=>ts.length-(intOf i).toNat);case atStart=>exact⟨0,rfl,Nat.zero_le _,rfl,qd fun j s hj=>absurd hj (Nat.not_lt_zero _)⟩
 case round =>
  obtain⟨k,rfl,hk,hwr,HK⟩:=hrel;have hwr:=hwr.symm;subst hwr;by_cases hlt:k<ts.length
  ·obtain⟨s,hx⟩:∃x,ts[k]? = some x:=⟨ts[k],by simp[hlt]⟩;obtain⟨b,o,rfl,hP⟩:=HT.out (by omega);have hkc:(k:Int)<=(tc:Int):=(by omega);have hki:(k:Int)<(ts.length:Int):=(by omega);have c0:=qb _ hBw (hP k s hx 0 _ rfl);simp only[Nat.mul_one,Nat.add_zero]at c0;have HM:=qd (qI hx)
   have HNX:=fun h=>(qd (fun(j:Nat) (y:ByteArray) (hj:j<k+1) (hy:ts[j]? = some y)=>by
    rcases Nat.lt_succ_iff_lt_or_eq.1 hj with h1|rfl
    ·exact HK.out j y h1 hy
    ·rw[hx]at hy;cases hy;exact h):Hid (∀(j:Nat) (y:ByteArray),j<k+1->ts[j]? = some y->decide (100<y.size)=false))
   clear hP hx;by_cases hbig:100<s.size
   ·have hi:(100:Int)<(s.size:Int):=(by omega);have hz:=HR2.out (List.any_eq_true.2 ⟨s,HM.out,by simpa using hbig⟩);subst hz;go_wp2;go_ret;exact⟨rfl,hBw⟩
   ·have hi:¬(100:Int)<(s.size:Int):=(by omega);have HN2:=HNX (by simpa using hbig);clear HNX;go_wp2;go_roundw;(case rel=>exact⟨k+1,rfl,by omega,(by first|rfl|trivial),HN2⟩);case measure=>simp[intOf];omega
  ·obtain rfl:k=ts.length:=by omega
   have hta:(ts.any fun s=>decide (100<s.size))=false:=by
    rw[List.any_eq_false];intro s hs;obtain⟨j,hj,rfl⟩:=List.getElem_of_mem hs;have:=HK.out j _ hj (qM hj);simpa using this
   have HR5:=qd (HR4.out hta);clear HK HR2 HR4 hta hk hlt;go_wp2;go_loopw [4] (fun i wr=>∃k:Nat,i=.int .i64 k/\k<=os.length/\wr=W/\Hid (∀(j:Nat) o,j<k->os[j]? = some o->(decide (20<o.ws.length)||o.ws.any fun x=>decide (20<x.l.length))=false)) (fun i _=>os.length-(intOf i).toNat);case atStart=>exact⟨0,rfl,Nat.zero_le _,rfl,qd fun j s hj=>absurd hj (Nat.not_lt_zero _)⟩
   case round =>
    obtain⟨k,rfl,hk,hwr,HK⟩:=hrel;have hwr:=hwr.symm;subst hwr;by_cases hlt:k<os.length
    ·obtain⟨x,hx⟩:∃x,os[k]? = some x:=⟨os[k],by simp[hlt]⟩;obtain⟨b,o,rfl,hP⟩:=HO.out (by omega);have hkc:(k:Int)<=(oc:Int):=(by omega);have hki:(k:Int)<(os.length:Int):=(by omega);have c2:=qb _ hBw (hP k x hx 2 _ rfl);have HM:=qd (qI hx)
     have HNX:=fun h=>(qd (fun(j:Nat) (y:OrdM) (hj:j<k+1) (hy:os[j]? = some y)=>by
      rcases Nat.lt_succ_iff_lt_or_eq.1 hj with h1|rfl
      ·exact HK.out j y h1 hy
      ·rw[hx]at hy;cases hy;exact h):Hid (∀(j:Nat) (y:OrdM),j<k+1->os[j]? = some y->(decide (20<y.ws.length)||y.ws.any fun x=>decide (20<x.l.length))=false))
     have HNX2:=qd HNX;have HRW:=qd (HW.out x HM.out);have hcw:=HCW.out x HM.out;have HBIG:=qd (fun(h:(decide (20<x.ws.length)||x.ws.any fun x=>decide (20<x.l.length))=true)=>HR3.out (List.any_eq_true.2 ⟨x,HM.out,h⟩));clear hP hx HNX HM;obtain⟨fr,tw,ws,wa,wc⟩:=x
     simp only at *
     by_cases hbig:20<ws.length
     ·have hi:(20:Int)<(ws.length:Int):=(by omega);have hz:=HBIG.out (by simp[hbig]);subst hz;go_wp2;go_ret;exact⟨rfl,hBw⟩
     have hi:¬(20:Int)<(ws.length:Int):=(by omega);go_upto_region 14 with fail;clear hi;go_loopw [5] (fun i wr=>∃m:Nat,i=.int .i64 m/\m<=ws.length/\wr=W/\Hid (∀(j:Nat) y,j<m->ws[j]? = some y->decide (20<y.l.length)=false)) (fun i _=>ws.length-(intOf i).toNat);case atStart=>exact⟨0,rfl,Nat.zero_le _,rfl,qd fun j s hj=>absurd hj (Nat.not_lt_zero _)⟩
     case round =>
      obtain⟨m,rfl,hm,hwr,HM⟩:=hrel;have hwr:=hwr.symm;subst hwr;by_cases hml:m<ws.length
      ·obtain⟨y,hy⟩:∃y,ws[m]? = some y:=⟨ws[m],by simp[hml]⟩;obtain⟨bb,bo,rfl,hQ⟩:=HRW.out (by show 1<=ws.length;omega);have hmc:(m:Int)<=(wc:Int):=(by omega);have hmi:(m:Int)<(ws.length:Int):=(by omega);have d0:=qb _ hBw (hQ m y hy 0 _ rfl);simp only[Nat.mul_one,Nat.add_zero]at d0;have HYM:=qd (qI hy)
       have HNY:=fun h=>(qd (fun(j:Nat) (y':WayM) (hj:j<m+1) (hy':ws[j]? = some y')=>by
        rcases Nat.lt_succ_iff_lt_or_eq.1 hj with h1|rfl
        ·exact HM.out j y' h1 hy'
        ·rw[hy]at hy';cases hy';exact h):Hid (∀(j:Nat) (y':WayM),j<m+1->ws[j]? = some y'->decide (20<y'.l.length)=false))
       clear hQ hy;by_cases hb2:20<y.l.length
       ·have hi2:(20:Int)<(y.l.length:Int):=(by omega);have hz:=HBIG.out (by rw[Bool.or_eq_true];exact .inr (List.any_eq_true.2 ⟨y,HYM.out,by simpa using hb2⟩));subst hz;go_wp2;go_ret;exact⟨rfl,hBw⟩
       ·have hi2:¬(20:Int)<(y.l.length:Int):=(by omega);have HN2:=HNY (by simpa using hb2);clear HNY;go_wp2;go_roundw;(case rel=>exact⟨m+1,rfl,by omega,(by first|rfl|trivial),HN2⟩);case measure=>simp[intOf];omega
      ·obtain rfl:m=ws.length:=by omega
       have HN2:=HNX2.out (by
        rw[Bool.or_eq_false_iff];refine⟨by simpa using hbig,List.any_eq_false.2 fun y hy=>?_⟩;obtain⟨j,hj,rfl⟩:=List.getElem_of_mem hy;have:=HM.out j _ hj (qM hj)
        simpa using this)
       clear HM HNX2;go_wp2;go_roundw;(case rel=>exact⟨k+1,rfl,by omega,(by first|rfl|trivial),HN2⟩);case measure=>simp[intOf];omega
    ·obtain rfl:k=os.length:=by omega
     have hoa:(os.any fun o=>decide (20<o.ws.length)||o.ws.any fun x=>decide (20<x.l.length))=false:=by
      rw[List.any_eq_false];intro s hs;obtain⟨j,hj,rfl⟩:=List.getElem_of_mem hs;have:=HK.out j _ hj (qM hj);rw[this];simp
     have hz:=HR5.out hoa;subst hz;clear HK hoa;go_wp2;go_ret;exact⟨rfl,hBw⟩
def fitB(D:DayM):Bool:=!ZY D&&decide (checkN D=0)
theorem qeA{D:DayM}(h:fitB D=true)(hc:DayCap D):DaySm D/\checkN D=0:=by
 unfold fitB at h;simp only[Bool.and_eq_true,Bool.not_eq_true',decide_eq_true_eq]at h;exact⟨qch h.1 hc,h.2⟩
theorem qaS(D:DayM)(w:World)(h:DayAt w D)(hcap:DayCap D):Calls qp 18 #[dv D] w fun e w'=>e=.returned (.bool (fitB D))/\Below w.heap.size w w':=by
 have hgr:=fun W (hB:Below w.heap.size w W)=>qdS D W (h.keep hB) hcap;have hck:=fun(hg:ZY D=false) W (hB:Below w.heap.size w W)=>JA D W (h.keep hB) (qch hg hcap);unfold fitB
 generalize ZY D=G at *
 generalize checkN D=C at *
 unfold dv at *
 clear h hcap;obtain⟨ts,ta,tc,gs,ga,gc,os,oa,oc,hs,ha,hc,cs,ca,cc⟩:=D
 simp only at *
 generalize Value.slice ta ts.length tc=x0 at *
 generalize Value.slice ga gs.length gc=x1 at *
 generalize Value.slice oa os.length oc=x2 at *
 generalize Value.slice ha hs.length hc=x3 at *
 generalize Value.slice ca cs.length cc=x4 at *
 cases G with
 | true =>
   clear hck;go_enter (sf 18 f18),ntmps18;go_wp2_with (go_at_call 7;(with_reducible refine(hgr _ (by go_grown)).mono ?_);rintro e w1 ⟨rfl,hB1⟩;have hB2:=bcl (w:=w) (by go_grown) hB1);go_ret;exact⟨rfl,hB2⟩
 | false =>
   have HCK:=qd (hck rfl);clear hck;by_cases hC:C=0
   ·subst hC;go_enter (sf 18 f18),ntmps18;go_wp2_with (first|(go_at_call 7;(with_reducible refine(hgr _ (by go_grown)).mono ?_);rintro e w1 ⟨rfl,hB1⟩;have hB2:=bcl (w:=w) (by go_grown) hB1;obtain⟨hc,hg⟩:=zY hB1;have hz1:=hB1.size;simp at hz1;have hz2:w.heap.size<w1.heap.size:=(by omega))|(go_at_call 26;(with_reducible refine(HCK.out _ hB2).mono ?_);rintro e w2 ⟨rfl,hB3⟩;have hB4:=bcl hB2 hB3));go_ret;exact⟨by simp,hB4⟩
   ·have hne:(C==0)=false:=(by simpa using hC);go_enter (sf 18 f18),ntmps18;go_wp2_with (first|(go_at_call 7;(with_reducible refine(hgr _ (by go_grown)).mono ?_);rintro e w1 ⟨rfl,hB1⟩;have hB2:=bcl (w:=w) (by go_grown) hB1;obtain⟨hc,hg⟩:=zY hB1;have hz1:=hB1.size;simp at hz1;have hz2:w.heap.size<w1.heap.size:=(by omega))|(go_at_call 26;(with_reducible refine(HCK.out _ hB2).mono ?_);rintro e w2 ⟨rfl,hB3⟩;have hB4:=bcl hB2 hB3));go_ret;exact⟨by simp[hC],hB4⟩
theorem qcr(D:DayM)(s:SetM)(took:List WayM)(c:CalM):∀(n k:Nat),-1<=(yR D s took c n k).1
 | 0,_=>by show(-1:Int)<=-1;omega
 | n+1,k=>by
   unfold yR;split
   ·exact qcr D s took c n (k+1)
   ·show(-1:Int)<=(k:Int);omega
theorem qav(D:DayM)(s:SetM)(hs:s.away=0):∀(i:Nat) (took:List WayM) (cs:List CalM),∀r∈yn D s i took cs,-1<=r
 | _,_,[],r,h=>by cases h
 | i,took,c::cs,r,h=>by
   rcases List.mem_cons.1 h with rfl|h
   ·unfold ZK jL;rw[hs,show decide ((0:Int)/2 ^ i%2=1)=false by simp];exact qcr D s took c _ _
   ·exact qav D s hs _ _ _ r h
theorem Jz(D:DayM)(p:PastM):∀r∈qD D (setOf p),-1<=r:=qav D (setOf p) rfl _ _ _
theorem qdu(D:DayM)(l:List Int)(la:Option Addr)(lc:Nat)(w:World)(h:DayAt w D)(hs:DaySm D)(hG:Globs w)(hA:jv D l=0)(hll:l.length<=20)(hlc:l.length<=lc)(hl:qi w 1 encI la l) :
 Calls qp 31 #[dv D,.slice la l.length lc] w fun e w'=>Below w.heap.size w w'/\∃a c,e=.returned (.tuple #[.slice a D.cs.length c,.bool true])/\D.cs.length<=c/\yo w.heap.size w' 1 encI a (qD D (setOf (qC l))):=by
 have hpl:=fun W (hB:Below w.heap.size w W)=>qct D W (h.keep hB) hs (hG.keep hB) l la lc hll hlc (hl.keep hB);have hwo:=fun c W (hB:Below w.heap.size w W)=>jw D c W (h.keep hB) hs;have hlt:=fun k r c (h:(qD D (setOf (qC l)))[k]? = some r) (hc:D.cs[k]? = some c)=>(Zf D (setOf (qC l)) h hc).1;have hge:=Jz D (qC l);have hpn:=qH D (setOf (qC l));have hcs:=h.cs;have hsm:=hs.cs
 have hww:∀c,(qK D c).ws.length<=20:=fun c=>by
  by_cases hz:zG D c<0
  ·rw[yf hz];simp
  ·have:=yg (D:=D) (c:=c) (k:=(zG D c).toNat) (by omega);exact(hs.ws _ (qI this)).1
 have HPL:Hid (∀W,Below w.heap.size w W->Calls qp 23 #[dv D,.slice la l.length lc] W fun e w'=>Below W.heap.size W w'/\∃a c,e=.returned (.tuple #[.slice a D.cs.length c,.int .i64 0])/\D.cs.length<=c/\yo W.heap.size w' 1 encI a (qD D (setOf (qC l)))):=qd fun W hB=>(hpl W hB).mono fun e w' hp=>by
  obtain⟨h1,h2|h2⟩:=hp
  ·exact absurd hA h2.1
  ·rw[hpn]at h2;exact⟨h1,h2.2⟩
 clear h hs hG hl hpl hA
 generalize qD D (setOf (qC l))=P at *
 simp only[ZO,cvC]at hwo;obtain⟨fa,hoa⟩:∃f:CalM->Option Addr,∀c,(qK D c).a=f c:=⟨_,fun _=>rfl⟩;obtain⟨fn,hol⟩:∃f:CalM->Nat,∀c,(qK D c).ws.length=f c:=⟨_,fun _=>rfl⟩;obtain⟨fc,hoc⟩:∃f:CalM->Nat,∀c,(qK D c).c=f c:=⟨_,fun _=>rfl⟩
 simp only[hoa,hol,hoc]at *
 clear hoa hol hoc
 unfold dv at *
 obtain⟨ts,ta,tc,gs,ga,gc,os,oa,oc,hs,ha,hc,cs,ca,cc⟩:=D
 simp only at *
 have HWO:=qd hwo;have HLT:=qd hlt;have HGE:=qd hge;have HPN:=qd hpn;have HCS:=qd hcs;have HWW:=qd hww;clear hwo hlt hge hpn hcs hww;obtain⟨W,hW⟩:∃W,w.alloc (Obj.cells #[.slice ta ts.length tc,.slice ga gs.length gc,.slice oa os.length oc,.slice ha hs.length hc,.slice ca cs.length cc] 28)=W:=⟨_,rfl⟩;have h5:B5 W w.heap.size (.slice ta ts.length tc) (.slice ga gs.length gc) (.slice oa os.length oc) (.slice ha hs.length hc) (.slice ca cs.length cc):=by subst hW;exact B5.new ..
 have hBw:Below w.heap.size w W:=by subst hW;go_grown
 obtain⟨k0,k1,k2,k3,k4⟩:=h5;have hWz:w.heap.size<=W.heap.size:=hBw.size;go_enter (sf 31 f31),ntmps31;go_upto_region 1 with fail;try rw[hW]
 clear hW;go_upto_region 4 with(go_at_call 23;(with_reducible refine(HPL.out _ hBw).mono ?_);intro e w1 hP;obtain⟨hB1,pa,pc,he,hpc,hpr⟩:=hP;subst he;replace k0:=qb _ hB1 k0;replace k1:=qb _ hB1 k1;replace k2:=qb _ hB1 k2;replace k3:=qb _ hB1 k3;replace k4:=qb _ hB1 k4;replace hBw:=bcl hBw hB1;clear hB1);have HPO:=qd (show yo w.heap.size w1 1 encI pa P from⟨fun p hp=>Nat.le_trans hWz (hpr.1 p hp),hpr.2⟩);have HPR:=qd hpr.rows;clear hpr HPL;go_wp2;obtain⟨W1,hW1⟩:∃W1,W1=w1:=⟨_,rfl⟩;subst hW1;go_loopw [8] (fun i wr=>∃k:Nat,i=.int .i64 k/\k<=cs.length/\Below W1.heap.size W1 wr) (fun i _=>cs.length-(intOf i).toNat);case atStart=>exact⟨0,rfl,Nat.zero_le _,Below.refl _ _⟩
 case round =>
  obtain⟨k,rfl,hk,hBr⟩:=hrel;replace k0:=qb _ hBr k0;replace k1:=qb _ hBr k1;replace k2:=qb _ hBr k2;replace k3:=qb _ hBr k3;replace k4:=qb _ hBr k4;have hBy:=bcl hBw hBr;by_cases hlt:k<cs.length
  ·obtain⟨c,hx⟩:∃x,cs[k]? = some x:=⟨cs[k],by simp[hlt]⟩;obtain⟨r,hr⟩:∃r,P[k]? = some r:=⟨P[k]'(by rw[HPN.out];exact hlt),qM _⟩;obtain⟨b,o,rfl,hP⟩:=HCS.out (by omega);obtain⟨gb,go,rfl,hQ⟩:=HPR.out (by rw[HPN.out];omega);have hkc:(k:Int)<=(cc:Int):=(by omega);have hkp:(k:Int)<=(pc:Int):=(by omega);have hki:(k:Int)<(cs.length:Int):=(by omega);have c0:=qb _ hBy (hP k c hx 0 _ rfl);have c1:=qb _ hBy (hP k c hx 1 _ rfl);have c2:=qb _ hBy (hP k c hx 2 _ rfl);have c3:=qb _ hBy (hP k c hx 3 _ rfl);have c4:=qb _ hBy (hP k c hx 4 _ rfl);simp only[Nat.add_zero]at c0;have d0:=qb _ hBr (hQ k r hr 0 _ rfl);simp only[Nat.mul_one,Nat.add_zero]at d0;have h1:=HLT.out k r c hr hx;have h2:=HGE.out r (qI hr);have hwo:=HWO.out c;have hw20:=HWW.out c;clear hP hQ hx hr
   generalize fa c=qa at *
   generalize fn c=qn at *
   generalize fc c=qc at *
   have hin:=fun W=>Yy r (-1) ((qn:Int)-1) W;rw[show btw r (-1) ((qn:Int)-1)=true from zS.2 ⟨h2,by omega⟩]at hin;have hwn:wrap64 ((qn:Int)-1)=(qn:Int)-1:=wrap_small (by omega) (by omega);have hwn2:IntKind.i64.wrap ((qn:Int)-1)=(qn:Int)-1:=(by rw[IntKind.wrap_i64];omega);have HWC:=qd hwo;have HIN:=qd hin;clear hwo hin h1 h2 hw20;obtain⟨fr,tw,co,cl,se⟩:=c
   simp only at *
   go_upto_region 7 with fail;refine wp_region_held_drew (S:=(RH11 wr ⟨gb,go+k,none⟩ ⟨w.heap.size,0,none⟩ ⟨w.heap.size,1,none⟩ ⟨w.heap.size,2,none⟩ ⟨w.heap.size,3,none⟩ ⟨w.heap.size,4,none⟩ ⟨b,o+k*5,none⟩ ⟨b,o+k*5+1,none⟩ ⟨b,o+k*5+2,none⟩ ⟨b,o+k*5+3,none⟩ ⟨b,o+k*5+4,none⟩ (.int .i64 r) (.slice ta ts.length tc) (.slice ga gs.length gc) (.slice oa os.length oc) (.slice ha hs.length hc) (.slice (some ⟨b,o,none⟩) cs.length cc) (.int .i64 fr) (.int .i64 tw) (.int .i64 co) (.int .i64 cl) (.int .i64 se))) (by kernel_rfl) (by exact RHL.drew ⟨d0,k0,k1,k2,k3,k4,c0,c1,c2,c3,c4,Below.refl _ _⟩) (fun hHeld=>?_);refine tk 0 ?_;refine tk 1 ?_;refine tk 2 ?_;refine tk 3 ?_;refine tk 4 ?_;refine tk 5 ?_;refine tk 6 ?_;refine tk 7 ?_;refine tk 8 ?_;(refine tk 9 ?_;try simp only[zs,Act.put]);refine tkR 10 fun K hK=>?_;go_simp;go_wp2_with (go_at_call 84;(with_reducible refine(HWC.out _ (bcl hBy (RHL.bel hHeld))).mono ?_);rintro e w3 ⟨rfl,hB3⟩);refine hK.out _ _ (by exact RHL.call hHeld hB3) (fun hHeldN=>?_);clear hK K hHeld;have hHeld:=hHeldN;clear hHeldN;(try simp only[zs,Act.put]);refine tk 11 ?_;(refine tk 12 ?_;try simp only[zs,Act.put]);refine tkR 13 fun K hK=>?_;go_simp;go_wp2_with (go_at_call 21;(with_reducible refine(HIN.out _).mono ?_);rintro e w4 ⟨rfl,rfl⟩);refine hK.out _ _ (by exact hHeld) (fun hHeldN=>?_);clear hK K hHeld;have hHeld:=hHeldN;clear hHeldN;(try simp only[zs,Act.put]);(refine tk 14 ?_;try simp only[zs,Act.put]);refine wpAnyH_done (by kernel_rfl) ?_ _;try simp only[zs,Act.put]
   have hB4:=RHL.bel hHeld;clear hHeld hwn hwn2;have hBr4:=bcl hBr hB4;go_wp2;go_roundw;(case rel=>exact⟨k+1,rfl,by omega,hBr4⟩);case measure=>simp[intOf];omega
  ·obtain rfl:k=cs.length:=(by omega);have hpr:=HPO.out.keep hBr;go_wp2
   go_ret2
   exact⟨hBy,pa,pc,rfl,hpc,hpr⟩
theorem jK(s:List Int)(i:Nat)(h:i<s.length):s.toArray[i]! = s[i]:=by
 simp[getElem!_pos,h]
theorem comp_lt(s:List Int)(hs:s.Pairwise (fun x y=>x<=y)):(Lib.compact s).Pairwise (fun x y=>x<y):=by
 unfold Lib.compact Lib.compactUpTo;rw[List.pairwise_map];refine List.Pairwise.imp_of_mem ?_ (List.Pairwise.filter _ (List.pairwise_lt_range (n:=s.length)));intro i j hi hj hij;have hj1:=List.mem_range.1 (List.mem_filter.1 hj).1;have hj2:=(List.mem_filter.1 hj).2;unfold Lib.keeps at hj2;have hj3:=of_decide_eq_true hj2;have hp:=List.pairwise_iff_getElem.1 hs;have e1:=jK s j hj1;have e2:=jK s (j-1) (by omega);have e3:=jK s i (by omega);rcases hj3 with h0|h0
 ·omega
 ·have h1:=hp (j-1) j (by omega) hj1 (by omega)
  have h2:s[i]'(by omega)<=s[j-1]'(by omega):=by
   by_cases e:i=j-1
   ·subst e;exact Int.le_refl _
   ·exact hp i (j-1) (by omega) (by omega) (by omega)
  rw[e1,e2]at h0;rw[e1,e3];omega
theorem comp_mem(s:List Int)(x:Int):x∈Lib.compact s↔x∈s:=by
 unfold Lib.compact Lib.compactUpTo;rw[List.mem_map];constructor
 ·rintro⟨i,hi,rfl⟩;have h1:=List.mem_range.1 (List.mem_filter.1 hi).1;rw[jK s i h1];exact List.getElem_mem h1
 ·intro hx;obtain⟨i,hi,rfl⟩:=List.mem_iff_getElem.1 hx
  induction i with
  | zero=>exact⟨0,List.mem_filter.2 ⟨List.mem_range.2 hi,by simp[Lib.keeps]⟩,jK s 0 hi⟩
  | succ i ih =>
    by_cases h:s[i+1]=s[i]'(by omega)
    ·rw[h];exact ih (by omega) (List.getElem_mem _)
    ·refine⟨i+1,List.mem_filter.2 ⟨List.mem_range.2 hi,?_⟩,jK s _ hi⟩;unfold Lib.keeps;refine decide_eq_true (.inr ?_);rw[jK s _ hi,Nat.add_sub_cancel,jK s i (by omega)];exact h
theorem QU(l:List Int):(qN l).Pairwise fun x y=>x<y:=by
 unfold qN;refine comp_lt _ ?_;refine List.Pairwise.imp (fun h=>of_decide_eq_true h) (List.pairwise_mergeSort (le:=fun x y=>decide (x<=y)) ?_ ?_ l)
 ·intro a b c h1 h2;have:=of_decide_eq_true h1;have:=of_decide_eq_true h2;exact decide_eq_true (by omega)
 ·intro a b;by_cases h:a<=b
  ·simp[h]
  ·have:b<=a:=(by omega);simp[this]
theorem Qd(l:List Int)(x:Int):x∈qN l↔x∈l:=by
 unfold qN;rw[comp_mem,List.mem_mergeSort]
end Go.Proofs.Tryz
