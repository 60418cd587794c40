/-
  Lemmas about the program and the machine (Q9 to Q15), upon which the last text of this claim rests; no condition.
-/
import Derived.LoopN
import Derived.Deep.AppendLies
import Derived.OwnWalk
import Derived.Test.YtjkbbnphdbgjiaaGreatDoorE04
set_option linter.unusedSimpArgs false
set_option linter.unusedVariables false
set_option maxRecDepth 100000
set_option maxHeartbeats 8000000
namespace Go.Proofs.Tryz
open Go Go.Load Go.RowKit
theorem qbs(x y:WayM)(b:Nat)(hx:x.l.length<=20/\x.l.length<=x.c)(hy:y.l.length<=20/\y.l.length<=y.c)(w:World)(h0:w.cell? ⟨b,0,none⟩=some (.slice x.a x.l.length x.c))(hX:qi w 1 encI x.a x.l)(hY:qi w 1 encI y.a y.l) :
 Calls qp 179 #[.slice y.a y.l.length y.c,.pointer (some ⟨b,0,none⟩)] w fun e w'=>e=.returned (.bool (decide (x.l=y.l)))/\Below w.heap.size w w':=by
 have heq:=qen x.l y.l x.a y.a x.c y.c (by omega) (by omega) hx.2 hy.2 w hX hY
 generalize decide (x.l=y.l)=R at *
 obtain⟨xl,xa,xc⟩:=x;obtain⟨yl,ya,yc⟩:=y
 simp only at *
 clear hX hY;go_enter (sf 179 f179),ntmps179;go_wp2_with (go_at_call 180;(with_reducible refine heq.mono ?_);rintro e w1 ⟨rfl,hB1⟩);go_ret;exact⟨rfl,hB1⟩
def JG(D:DayM)(o:OrdM)(i:Nat)(x:WayM):Int:=if qbM D o x.l≠0 then qbM D o x.l else if((o.ws.take i).any fun y=>decide (x.l=y.l))=true then 5 else 0
def qfv(D:DayM)(met:List (Int×Int))(o:OrdM):Int:=if zZ D.ts.length o.fr o.toT≠0 then zZ D.ts.length o.fr o.toT else if(o.fr,o.toT)∈met then 5 else if 3<o.ws.length then 2 else zA (JG D o) 0 o.ws
def yT(D:DayM):List (Int×Int)->List OrdM->Int
 | _,[]=>0
 | met,o::l=>if qfv D met o≠0 then qfv D met o else yT D ((o.fr,o.toT)::met) l
def xJ(D:DayM):Int:=if 6<D.os.length then 2 else yT D [] D.os
theorem Zb(D:DayM)(met:List (Int×Int)){l:List OrdM}{k:Nat}{o:OrdM}(h:l[k]? = some o):yT D met (l.drop k)=if qfv D met o≠0 then qfv D met o else yT D ((o.fr,o.toT)::met) (l.drop (k+1)):=by
 obtain⟨hk,rfl⟩:=qB h;rw[List.drop_eq_getElem_cons hk];rfl
def qdj(ps:List (Int×Int))(n:Int×Int):Option Value:=if n∈ps then some (.bool true)else none
theorem qfh(ps:List (Int×Int))(n:Int×Int):(fun k=>if k=n then some (.bool true)else qdj ps k)=qdj (n::ps):=by
 funext k;unfold qdj;by_cases h:k=n<;>simp[h]
theorem JP(x:WayM)(l:List WayM)(a:Option Addr)(c:Nat)(b:Nat)(hx:x.l.length<=20/\x.l.length<=x.c)(hl:∀y∈l,y.l.length<=20/\y.l.length<=y.c)(hlen:l.length<=1000)(w:World)(h0:w.cell? ⟨b,0,none⟩=some (.slice x.a x.l.length x.c))(hX:qi w 1 encI x.a x.l)(hA:qi w 1 xu a l)(hY:∀y∈l,qi w 1 encI y.a y.l) :
 Calls qp 178 #[.slice a l.length c,.func (.func 179) #[] #[.pointer (some ⟨b,0,none⟩)]] w fun e w'=>e=.returned (.bool (l.any fun y=>decide (x.l=y.l)))/\Below w.heap.size w w' :=
 qbd 179 #[.pointer (some ⟨b,0,none⟩)] (fun _ _=>by kernel_rfl) (fun y=>decide (x.l=y.l)) l a c hlen (fun W=>Below w.heap.size w W) (fun W hW=>hA.keep hW) w (Below.refl _ _)
  (fun i y hi W (hW:Below w.heap.size w W)=>(qbs x y b hx (hl y (qI hi)) W (qb _ hW h0) (hX.keep hW) ((hY y (qI hi)).keep hW)).mono fun e w' ⟨he,hB1⟩=>⟨he,bcl hW hB1⟩)
theorem qdp(D:DayM)(m:Option Nat)(w:World)(h:DayAt w D)(hs:DaySm D):Calls qp 172 #[dm D m] w fun e w'=>e=.returned (.int .i64 (xJ D))/\Below w.heap.size w w':=by
 have hos:=h.os;have hsm:=hs.os;have hlw:∀o:OrdM,o∈D.os->o.ws.length<=20/\o.ws.length<=o.c:=hs.ws;have hwy:=fun(o:OrdM) (ho:o∈D.os) (x:WayM) (hx:x∈o.ws) W (hB:Below w.heap.size w W)=>way_any D m o x.l x.a x.c W (h.keep hB) hs (hs.ls o ho x hx) ((h.ls o ho x hx).keep hB)
 have hcb:=fun(o:OrdM) (ho:o∈D.os) (x:WayM) (hx:x∈o.ws) (n:Nat) (hn:n<=o.ws.length) (b:Nat) W (hB:Below w.heap.size w W) (h0:W.cell? ⟨b,0,none⟩=some (.slice x.a x.l.length x.c))=>by
  have e:=JP x (o.ws.take n) o.a o.c b (hs.ls o ho x hx) (fun y hy=>hs.ls o ho y (List.mem_of_mem_take hy)) (by rw[List.length_take];have:=(hs.ws o ho).1;omega) W h0 ((h.ls o ho x hx).keep hB) (((h.ws o ho).keep hB).take n) (fun y hy=>(h.ls o ho y (List.mem_of_mem_take hy)).keep hB);rw[List.length_take,Nat.min_eq_left hn]at e;exact e
 have hrw:=h.ws;have hen:=fun one two=>Jg D.ta D.ts.length D.tc (by have:=hs.ts.1;omega) (.slice D.ga D.gs.length D.gc) (.slice D.oa D.os.length D.oc) (.slice D.ha D.hs.length D.hc) (.slice D.ca D.cs.length D.cc) (.map m) one two;obtain⟨R,hR⟩:∃R,xJ D=R:=⟨_,rfl⟩;rw[hR];unfold xJ at hR;have hdr:=fun met k o (hx:D.os[k]? = some o)=>Zb D met hx;have hnl:∀met q,q.length=0->yT D met q=0:=fun met q h=>by cases q with|nil=>rfl|cons _ _=>cases h
 have hoa:∀met o,qfv D met o=(if zZ D.ts.length o.fr o.toT≠0 then zZ D.ts.length o.fr o.toT else if(o.fr,o.toT)∈met then 5 else if 3<o.ws.length then 2 else zA (JG D o) 0 o.ws):=fun _ _=>rfl;have hwa:∀o i x,JG D o i x=(if qbM D o x.l≠0 then qbM D o x.l else if((o.ws.take i).any fun y=>decide (x.l=y.l))=true then 5 else 0):=fun _ _ _=>rfl;have HDR:=qd hdr;have HNL:=qd hnl;have HOA:=qd hoa;have HWA:=qd hwa;have HWY:=qd hwy;have HCB:=qd hcb;have HEN:=qd hen;have HOS:=qd hos;have HRW:=qd hrw;have HLW:=qd hlw;clear hdr hnl hoa hwa hwy hcb hen hos hrw h hs hlw
 unfold dm at *
 generalize yT D=OG at *
 generalize qfv D=OA at *
 generalize JG D=WT at *
 generalize qbM D=WA at *
 obtain⟨ts,ta,tc,gs,ga,gc,os,oa,oc,hs,ha,hc,cs,ca,cc⟩:=D
 simp only at *
 generalize Value.slice ta ts.length tc=x1 at *
 generalize Value.slice ga gs.length gc=x2 at *
 generalize Value.slice ha hs.length hc=x3 at *
 generalize Value.slice ca cs.length cc=x4 at *
 generalize ts.length=N at *
 by_cases hlen:6<os.length
 ·simp[hlen]at hR;subst hR;clear HDR HNL HOA HWA HWY HCB HEN HOS HRW HLW;go_enter (sf 172 f172),ntmps172;go_wp2;go_ret;exact⟨rfl,by go_grown⟩
 ·simp[hlen]at hR;have HR:=qd hR;clear hR;have hmk:=qdl;go_enter (sf 172 f172),ntmps172;go_wp2;obtain⟨W,hW⟩:∃W,(w.alloc (Obj.cells #[x1,x2,.slice oa os.length oc,x3,x4,.map m] 73)).alloc (Obj.map #[] 0)=W:=⟨_,rfl⟩;have h6:B6 W w.heap.size x1 x2 (.slice oa os.length oc) x3 x4 (.map m):=by subst hW;exact⟨by go_cell,by go_cell,by go_cell,by go_cell,by go_cell,by go_cell⟩
  have h8:Qu xC W (w.heap.size+1) (qdj []):=by
   have e:=Qu.new (enc:=xC) (w.alloc (Obj.cells #[x1,x2,.slice oa os.length oc,x3,x4,.map m] 73));rw[hW]at e;have e2:qdj []=fun _=>none:=(by funext n;simp[qdj]);rw[e2];simpa using e
  have hBW:Below w.heap.size w W:=by subst hW;go_grown
  rw[hW];clear hW hmk;go_loopw [20] (fun i wr=>∃(k:Nat) (ps:List (Int×Int)),i=.int .i64 k/\k<=os.length/\Below w.heap.size w wr/\B6 wr w.heap.size x1 x2 (.slice oa os.length oc) x3 x4 (.map m)/\Qu xC wr (w.heap.size+1) (qdj ps)/\Hid (OG ps (os.drop k)=R)) (fun i _=>os.length-(intOf i).toNat);case atStart=>exact⟨0,[],rfl,by omega,hBW,h6,h8,HR⟩
  case round =>
   clear h6 h8 hBW;obtain⟨k,ps,rfl,hk,hBw,h6,h8,HE⟩:=hrel;have hzr:=h8.lt;have hz0:w.heap.size<wr.heap.size:=(by omega);obtain⟨k0,k1,k2,k3,k4,k5⟩:=h6;have h6:B6 wr w.heap.size x1 x2 (.slice oa os.length oc) x3 x4 (.map m):=⟨k0,k1,k2,k3,k4,k5⟩;by_cases hlt:k<os.length
   ·obtain⟨o,hx⟩:∃x,os[k]? = some x:=⟨os[k],by simp[hlt]⟩;obtain⟨ab,ao,rfl,hP⟩:=HOS.out (by omega);have hkc:(k:Int)<=(oc:Int):=(by omega);have c0:=qb _ hBw (hP k o hx 0 _ rfl);have c1:=qb _ hBw (hP k o hx 1 _ rfl);have c2:=qb _ hBw (hP k o hx 2 _ rfl);simp only[Nat.add_zero]at c0;have hom:=qI hx;have hA:=HE.out;rw[HDR.out _ _ _ hx,HOA.out]at hA;have hen:=HEN.out o.fr o.toT;have hwy:=fun x hx=>HWY.out o hom x hx;have hcb:=fun x hx=>HCB.out o hom x hx;have hrw:=HRW.out o hom;have hlw:=HLW.out o hom;have hwa:=HWA.out o;clear hP hx HEN HWY HCB HRW HLW HWA HOA hom
    have hlk:∀W1,Below (wr.alloc (Obj.cells #[.int .i64 o.fr,.int .i64 o.toT,.slice o.a o.ws.length o.c] 65)).heap.size (wr.alloc (Obj.cells #[.int .i64 o.fr,.int .i64 o.toT,.slice o.a o.ws.length o.c] 65)) W1->(Instr.lookup 197 (.map (some (w.heap.size+1))) (.agg #[.int .i64 o.fr,.int .i64 o.toT]) false).run qp W1=.ok ((qdj ps (o.fr,o.toT)).getD (.bool false)) W1:=fun W1 hB=>by
     have hBa:=bcl ((Below.refl _ wr).alloc ql (Obj.cells #[.int .i64 o.fr,.int .i64 o.toT,.slice o.a o.ws.length o.c] 65)) hB;have e:=yH qfq (h8.keep hBa) (o.fr,o.toT) false;simpa[xC]using e
    have hup:∀W1,Below (wr.alloc (Obj.cells #[.int .i64 o.fr,.int .i64 o.toT,.slice o.a o.ws.length o.c] 65)).heap.size (wr.alloc (Obj.cells #[.int .i64 o.fr,.int .i64 o.toT,.slice o.a o.ws.length o.c] 65)) W1->∃W2,(Instr.mapUpdate 197 (.map (some (w.heap.size+1))) (.agg #[.int .i64 o.fr,.int .i64 o.toT]) (.bool true)).run qp W1=.ok () W2 /\
     Hid (Qu xC W2 (w.heap.size+1) (qdj ((o.fr,o.toT)::ps)))/\Hid (Below w.heap.size w W2)/\B6 W2 w.heap.size x1 x2 (.slice (some ⟨ab,ao,none⟩) os.length oc) x3 x4 (.map m)/\W2.cell? ⟨wr.heap.size,0,none⟩=some (.int .i64 o.fr)/\W2.cell? ⟨wr.heap.size,1,none⟩=some (.int .i64 o.toT)/\W2.cell? ⟨wr.heap.size,2,none⟩=some (.slice o.a o.ws.length o.c):=fun W1 hB=>by
     have hBa:=bcl ((Below.refl _ wr).alloc ql (Obj.cells #[.int .i64 o.fr,.int .i64 o.toT,.slice o.a o.ws.length o.c] 65)) hB;obtain⟨W2,q1,q2,q3,q4⟩:=jh qfq (h8.keep hBa) (o.fr,o.toT) (.bool true);rw[qfh]at q2;exact⟨W2,q1,qd q2,qd (below_grown (bcl hBw hBa) ql q3 (by omega)),(h6.keep hBa).grown q3 (by omega),qZ q3 (qb _ hB (by go_cell)) (by simp;omega),qZ q3 (qb _ hB (by go_cell)) (by simp;omega),qZ q3 (qb _ hB (by go_cell)) (by simp;omega)⟩
    have HLK:=qd hlk;have HUP:=qd hup;clear hlk hup h8;obtain⟨fr,tw,ws,wa,wc⟩:=o
    simp only at *
    generalize zZ N fr tw=E at *
    by_cases hE:E=0
    ·subst hE;simp only[ne_eq,not_true_eq_false,if_false]at hA;by_cases hin:(fr,tw)∈ps
     ·rw[if_pos hin]at hA;have HA:=qd hA;have hf:(qdj ps (fr,tw)).getD (.bool false)=.bool true:=(by simp[qdj,hin]);rw[hf]at HLK;clear hA hf hin hrw hlw hcb hwy;go_wp2_with (go_at_call 174;(with_reducible refine(hen _).mono ?_);rintro e w1 ⟨rfl,hB1⟩;have hB2:=bcl (w:=w) (by go_grown) hB1;obtain⟨hc,hg⟩:=zY hB1;have hz1:=hB1.size;simp at hz1;have hlk:=HLK.out _ hB1);go_ret;exact⟨by have e:=HA.out;simp at e;rw[<-e];rfl,by go_grown⟩
     ·rw[if_neg hin]at hA;have hf:(qdj ps (fr,tw)).getD (.bool false)=.bool false:=(by simp[qdj,hin]);rw[hf]at HLK;clear hf hin;by_cases hl3:3<ws.length
      ·rw[if_pos hl3]at hA;have HA:=qd hA;clear hA hrw hlw hcb hwy;go_wp2_with (go_at_call 174;(with_reducible refine(hen _).mono ?_);rintro e w1 ⟨rfl,hB1⟩;have hB2:=bcl (w:=w) (by go_grown) hB1;obtain⟨hc,hg⟩:=zY hB1;have hz1:=hB1.size;simp at hz1;have hlk:=HLK.out _ hB1;obtain⟨W2,hup,q2,q3,q4,q5,q6,q7⟩:=HUP.out _ hB1;obtain⟨j0,j1,j2,j3,j4,j5⟩:=q4);go_ret;exact⟨by have e:=HA.out;simp at e;rw[<-e];rfl,q3.out⟩
      ·rw[if_neg hl3]at hA;have HA:=qd hA;have HCB:=qd hcb;have HWY:=qd hwy;have HRW:=qd hrw;have HWA:=qd hwa;clear hA hcb hwy hrw hwa;go_wp2_with (go_at_call 174;(with_reducible refine(hen _).mono ?_);rintro e w1 ⟨rfl,hB1⟩;have hB2:=bcl (w:=w) (by go_grown) hB1;obtain⟨hc,hg⟩:=zY hB1;have hz1:=hB1.size;simp at hz1;have hlk:=HLK.out _ hB1;obtain⟨W2,hup,q2,q3,q4,q5,q6,q7⟩:=HUP.out _ hB1;obtain⟨j0,j1,j2,j3,j4,j5⟩:=q4);have q3:=q3.out;obtain⟨R2,hR2⟩:∃r,zA (WT ⟨fr,tw,ws,wa,wc⟩) 0 ws=r:=⟨_,rfl⟩;rw[hR2]at HA;have HR2:=qd hR2;have hwsl:ws.length<=3:=(by omega);have hzo:wr.heap.size<W2.heap.size:=lt_of_cell q5;have hzw:w.heap.size<W2.heap.size:=lt_of_cell j0;clear hR2 hlk hup hB1 hB2 hc hg hz1 HUP HLK c0 c1 c2 k0 k1 k2 k3 k4 k5 h6;have hzv:w.heap.size<wr.heap.size:=hz0;obtain⟨V,hV⟩:∃V,V=wr:=⟨_,rfl⟩;subst hV;go_loopw [53] (fun i wr=>∃j:Nat,i=.int .i64 j/\j<=ws.length/\Below W2.heap.size W2 wr/\Hid (zA (WT ⟨fr,tw,ws,wa,wc⟩) j (ws.drop j)=R2)) (fun i _=>ws.length-(intOf i).toNat);case atStart=>exact⟨0,rfl,by omega,Below.refl _ _,HR2⟩
       case round =>
        obtain⟨j,rfl,hj,hBr,HF⟩:=hrel;replace j0:=qb _ hBr j0;replace j1:=qb _ hBr j1;replace j2:=qb _ hBr j2;replace j3:=qb _ hBr j3;replace j4:=qb _ hBr j4;replace j5:=qb _ hBr j5;replace q5:=qb _ hBr q5;replace q6:=qb _ hBr q6;replace q7:=qb _ hBr q7;have hzx:=hBr.size;have hz3:V.heap.size<wr.heap.size:=(by omega);have hz4:w.heap.size<wr.heap.size:=(by omega);have hBy:=bcl q3 hBr;by_cases hlj:j<ws.length
        ·obtain⟨x,hx⟩:∃x,ws[j]? = some x:=⟨ws[j],by simp[hlj]⟩;obtain⟨bb,bo,rfl,hP⟩:=HRW.out (by show 1<=ws.length;omega);have hjc:(j:Int)<=(wc:Int):=(by have:=hlw.2;omega);have d0:=qb _ hBy (hP j x hx 0 _ rfl);simp only[Nat.mul_one,Nat.add_zero]at d0;have hF:=HF.out;rw[zT _ hx,HWA.out]at hF;have hwy:=HWY.out x (qI hx);have hcb:=HCB.out x (qI hx) j hj wr.heap.size;clear hP hx;(try simp only at hwy);(try simp only at hcb);try simp only at hF
         generalize WA ⟨fr,tw,ws,some ⟨bb,bo,none⟩,wc⟩ x.l=A at *
         generalize((ws.take j).any fun y=>decide (x.l=y.l))=B at *
         by_cases hA0:A=0
         ·subst hA0;simp only[ne_eq,not_true_eq_false,if_false]at hF
          cases B with
          | true =>
            have HF:=qd hF;clear hF;go_wp2_with (first|(go_at_call 177;(with_reducible refine(hwy _ (by go_grown)).mono ?_);rintro e w1 ⟨rfl,hB1⟩;have hB5:=bcl (w:=w) (by go_grown) hB1;have hB6:=bcl (w:=W2) (by go_grown) hB1;obtain⟨hc,hg⟩:=zY hB1;have hz1:=hB1.size;simp at hz1;have p0:=qb ⟨wr.heap.size,0,none⟩ hB1 (v:=.slice x.a x.l.length x.c) (by go_cell))|(go_at_call 178;(with_reducible refine(hcb _ hB5 p0).mono ?_);rintro e w2 ⟨rfl,hB7⟩;have hB5:=bcl hB5 hB7;have hB6:=bcl hB6 hB7));go_ret;exact⟨by have e:=HF.out;simp at e;have e2:=HA.out;rw[<-e]at e2;simp at e2;rw[<-e2];rfl,hB5⟩
          | false =>
            have HF:=qd hF;clear hF;go_wp2_with (first|(go_at_call 177;(with_reducible refine(hwy _ (by go_grown)).mono ?_);rintro e w1 ⟨rfl,hB1⟩;have hB5:=bcl (w:=w) (by go_grown) hB1;have hB6:=bcl (w:=W2) (by go_grown) hB1;obtain⟨hc,hg⟩:=zY hB1;have hz1:=hB1.size;simp at hz1;have p0:=qb ⟨wr.heap.size,0,none⟩ hB1 (v:=.slice x.a x.l.length x.c) (by go_cell))|(go_at_call 178;(with_reducible refine(hcb _ hB5 p0).mono ?_);rintro e w2 ⟨rfl,hB7⟩;have hB5:=bcl hB5 hB7;have hB6:=bcl hB6 hB7));go_roundw;(case rel=>exact⟨j+1,rfl,by omega,hB6,qd (by simpa using HF.out)⟩);case measure=>simp[intOf];omega
         ·have hne2:(A != 0)=true:=(by simpa using hA0);have HF:=qd hF;clear hF hA0;go_wp2_with (first|(go_at_call 177;(with_reducible refine(hwy _ (by go_grown)).mono ?_);rintro e w1 ⟨rfl,hB1⟩;have hB5:=bcl (w:=w) (by go_grown) hB1;have hB6:=bcl (w:=W2) (by go_grown) hB1;obtain⟨hc,hg⟩:=zY hB1;have hz1:=hB1.size;simp at hz1;have p0:=qb ⟨wr.heap.size,0,none⟩ hB1 (v:=.slice x.a x.l.length x.c) (by go_cell))|(go_at_call 178;(with_reducible refine(hcb _ hB5 p0).mono ?_);rintro e w2 ⟨rfl,hB7⟩;have hB5:=bcl hB5 hB7;have hB6:=bcl hB6 hB7));go_ret
          exact⟨by have e:=HF.out
                   have g:A≠0:=by simpa using hne2
                   rw[if_pos g,if_pos g]at e;have e2:=HA.out;rw[<-e,if_pos g]at e2;rw[<-e2];rfl,hB5⟩
        ·obtain rfl:j=ws.length:=(by omega);have hF:=HF.out;rw[List.drop_eq_nil_of_le ql]at hF;have hF0:R2=0:=hF.symm;have hA:=HA.out;rw[hF0]at hA;have HA:=qd hA;clear hF hA;go_wp2;go_roundw;(case rel=>exact⟨k+1,(fr,tw)::ps,rfl,by omega,hBy,⟨j0,j1,j2,j3,j4,j5⟩,q2.out.keep hBr,qd (by simpa using HA.out)⟩);case measure=>simp[intOf];omega
    ·have hne:(E != 0)=true:=(by simpa using hE);have HA:=qd hA;clear hA hE hrw hlw hcb hwy;go_wp2_with (go_at_call 174;(with_reducible refine(hen _).mono ?_);rintro e w1 ⟨rfl,hB1⟩;have hB2:=bcl (w:=w) (by go_grown) hB1;obtain⟨hc,hg⟩:=zY hB1;have hz1:=hB1.size;simp at hz1);go_ret
     exact⟨by have e:=HA.out;have g:E≠0:=by simpa using hne
              rw[if_pos g,if_pos g]at e;rw[<-e];rfl,by go_grown⟩
   ·obtain rfl:k=os.length:=(by omega);have hA:=HE.out;rw[HNL.out _ _ (by simp)]at hA;have HA:=qd hA;clear hA h8;go_wp2;go_ret;exact⟨by rw[<-HA.out];rfl,hBw⟩
def checkN(D:DayM):Int:=if QB D≠0 then QB D else if yz D≠0 then yz D else if xJ D≠0 then xJ D else if jN D≠0 then jN D else Qy D
theorem Globs.keep{w w1:World}(h:Globs w)(hB:Below w.heap.size w w1):Globs w1:=⟨fun i v hv=>qb _ hB (h.c i v hv)⟩
theorem ZP(D:DayM)(w:World)(h:DayAt w D)(hs:DaySm D)(hG:Globs w):Calls qp 25 #[dv D] w fun e w'=>e=.returned (.int .i64 (checkN D))/\Below w.heap.size w w':=by
 have h0:=fun W (hB:Below w.heap.size w W)=>qgb D none W (h.keep hB) hs;have h1:=fun W (hB:Below w.heap.size w W)=>qdb D none W (h.keep hB) hs;have h2:=fun W (hB:Below w.heap.size w W)=>qdp D none W (h.keep hB) hs;have h3:=fun W (hB:Below w.heap.size w W)=>qeI D none W (h.keep hB) hs;have h4:=fun W (hB:Below w.heap.size w W)=>qed D none W (h.keep hB) hs;have g0:w.cell? ⟨0,0,none⟩=some (fOf 170):=hG.c 0 _ rfl;have g1:w.cell? ⟨0,1,none⟩=some (fOf 171):=hG.c 1 _ rfl;have g2:w.cell? ⟨0,2,none⟩=some (fOf 172):=hG.c 2 _ rfl;have g3:w.cell? ⟨0,3,none⟩=some (fOf 173):=hG.c 3 _ rfl;have g4:w.cell? ⟨0,4,none⟩=some (fOf 168):=hG.c 4 _ rfl;have l0:=lt_of_cell g0;simp only at l0;have i0:∀w,(Instr.index 114 (.agg #[fOf 170,fOf 171,fOf 172,fOf 173,fOf 168]) (.int .i64 0)).run qp w=.ok (fOf 170) w:=fun _=>by kernel_rfl
 have i1:∀w,(Instr.index 114 (.agg #[fOf 170,fOf 171,fOf 172,fOf 173,fOf 168]) (.int .i64 1)).run qp w=.ok (fOf 171) w:=fun _=>by kernel_rfl
 have i2:∀w,(Instr.index 114 (.agg #[fOf 170,fOf 171,fOf 172,fOf 173,fOf 168]) (.int .i64 2)).run qp w=.ok (fOf 172) w:=fun _=>by kernel_rfl
 have i3:∀w,(Instr.index 114 (.agg #[fOf 170,fOf 171,fOf 172,fOf 173,fOf 168]) (.int .i64 3)).run qp w=.ok (fOf 173) w:=fun _=>by kernel_rfl
 have i4:∀w,(Instr.index 114 (.agg #[fOf 170,fOf 171,fOf 172,fOf 173,fOf 168]) (.int .i64 4)).run qp w=.ok (fOf 168) w:=fun _=>by kernel_rfl
 unfold checkN
 generalize QB D=r0 at *
 generalize yz D=r1 at *
 generalize xJ D=r2 at *
 generalize jN D=r3 at *
 generalize Qy D=r4 at *
 have H0:=qd h0;have H1:=qd h1;have H2:=qd h2;have H3:=qd h3;have H4:=qd h4;clear h0 h1 h2 h3 h4 h hs hG
 unfold dv dm at *
 obtain⟨ts,ta,tc,gs,ga,gc,os,oa,oc,hs,ha,hc,cs,ca,cc⟩:=D
 simp only[fOf]at *
 generalize Value.slice ta ts.length tc=x0 at *
 generalize Value.slice ga gs.length gc=x1 at *
 generalize Value.slice oa os.length oc=x2 at *
 generalize Value.slice ha hs.length hc=x3 at *
 generalize Value.slice ca cs.length cc=x4 at *
 go_enter (sf 25 f25),ntmps25;go_wp2;refine wp_loop_rounds 6 ?_;by_cases z0:r0≠0;have hne:(r0 != 0)=true:=by simpa using z0
 rotate_left 1;obtain rfl:r0=0:=by simpa using z0
 all_goals
  rw[rounds_succ];go_wp2_with (go_at_call 170;(with_reducible refine(H0.out _ (by go_grown)).mono ?_);rintro e w1 ⟨rfl,hB1⟩;have hB2:=bcl (w:=w) (by go_grown) hB1;have k0:=qb ⟨w.heap.size,0,none⟩ hB1 (v:=x0) (by first|assumption|go_cell);have k1:=qb ⟨w.heap.size,1,none⟩ hB1 (v:=x1) (by first|assumption|go_cell);have k2:=qb ⟨w.heap.size,2,none⟩ hB1 (v:=x2) (by first|assumption|go_cell);have k3:=qb ⟨w.heap.size,3,none⟩ hB1 (v:=x3) (by first|assumption|go_cell);have k4:=qb ⟨w.heap.size,4,none⟩ hB1 (v:=x4) (by first|assumption|go_cell))
 rotate_left 1
 ·go_ret;exact⟨by simp[z0],hB2⟩
 by_cases z1:r1≠0;have hne:(r1 != 0)=true:=by simpa using z1
 rotate_left 1;obtain rfl:r1=0:=by simpa using z1
 all_goals
  rw[rounds_succ];go_wp2_with (go_at_call 171;(with_reducible refine(H1.out _ hB2).mono ?_);rintro e w2 ⟨rfl,hB1⟩;have hB2:=bcl (w:=w) hB2 hB1;have k0:=qb ⟨w.heap.size,0,none⟩ hB1 (v:=x0) (by first|assumption|go_cell);have k1:=qb ⟨w.heap.size,1,none⟩ hB1 (v:=x1) (by first|assumption|go_cell);have k2:=qb ⟨w.heap.size,2,none⟩ hB1 (v:=x2) (by first|assumption|go_cell);have k3:=qb ⟨w.heap.size,3,none⟩ hB1 (v:=x3) (by first|assumption|go_cell);have k4:=qb ⟨w.heap.size,4,none⟩ hB1 (v:=x4) (by first|assumption|go_cell))
 rotate_left 1
 ·go_ret;exact⟨by simp[z1],hB2⟩
 by_cases z2:r2≠0;have hne:(r2 != 0)=true:=by simpa using z2
 rotate_left 1;obtain rfl:r2=0:=by simpa using z2
 all_goals
  rw[rounds_succ];go_wp2_with (go_at_call 172;(with_reducible refine(H2.out _ hB2).mono ?_);rintro e w3 ⟨rfl,hB1⟩;have hB2:=bcl (w:=w) hB2 hB1;have k0:=qb ⟨w.heap.size,0,none⟩ hB1 (v:=x0) (by first|assumption|go_cell);have k1:=qb ⟨w.heap.size,1,none⟩ hB1 (v:=x1) (by first|assumption|go_cell);have k2:=qb ⟨w.heap.size,2,none⟩ hB1 (v:=x2) (by first|assumption|go_cell);have k3:=qb ⟨w.heap.size,3,none⟩ hB1 (v:=x3) (by first|assumption|go_cell);have k4:=qb ⟨w.heap.size,4,none⟩ hB1 (v:=x4) (by first|assumption|go_cell))
 rotate_left 1
 ·go_ret;exact⟨by simp[z2],hB2⟩
 by_cases z3:r3≠0;have hne:(r3 != 0)=true:=by simpa using z3
 rotate_left 1;obtain rfl:r3=0:=by simpa using z3
 all_goals
  rw[rounds_succ];go_wp2_with (go_at_call 173;(with_reducible refine(H3.out _ hB2).mono ?_);rintro e w4 ⟨rfl,hB1⟩;have hB2:=bcl (w:=w) hB2 hB1;have k0:=qb ⟨w.heap.size,0,none⟩ hB1 (v:=x0) (by first|assumption|go_cell);have k1:=qb ⟨w.heap.size,1,none⟩ hB1 (v:=x1) (by first|assumption|go_cell);have k2:=qb ⟨w.heap.size,2,none⟩ hB1 (v:=x2) (by first|assumption|go_cell);have k3:=qb ⟨w.heap.size,3,none⟩ hB1 (v:=x3) (by first|assumption|go_cell);have k4:=qb ⟨w.heap.size,4,none⟩ hB1 (v:=x4) (by first|assumption|go_cell))
 rotate_left 1
 ·go_ret;exact⟨by simp[z3],hB2⟩
 by_cases z4:r4≠0;have hne:(r4 != 0)=true:=by simpa using z4
 rotate_left 1;obtain rfl:r4=0:=by simpa using z4
 all_goals
  rw[rounds_succ];go_wp2_with (go_at_call 168;(with_reducible refine(H4.out _ hB2).mono ?_);rintro e w5 ⟨rfl,hB1⟩;have hB2:=bcl (w:=w) hB2 hB1;have k0:=qb ⟨w.heap.size,0,none⟩ hB1 (v:=x0) (by first|assumption|go_cell);have k1:=qb ⟨w.heap.size,1,none⟩ hB1 (v:=x1) (by first|assumption|go_cell);have k2:=qb ⟨w.heap.size,2,none⟩ hB1 (v:=x2) (by first|assumption|go_cell);have k3:=qb ⟨w.heap.size,3,none⟩ hB1 (v:=x3) (by first|assumption|go_cell);have k4:=qb ⟨w.heap.size,4,none⟩ hB1 (v:=x4) (by first|assumption|go_cell))
 rotate_left 1
 ·go_ret;exact⟨by simp[z4],hB2⟩
 rw[rounds_succ];go_wp2;go_ret;exact⟨by simp,hB2⟩
end Go.Proofs.Tryz
namespace Go.Proofs.Tryz
open Go Go.Load Go.LoadR Go.RowKit
theorem Zn(w:World):(isAgg 73).run qp w=.ok true w:=by kernel_rfl
theorem Qo(w:World):(Go.sizeOf 73).run qp w=.ok 6 w:=by kernel_rfl
def dz:Value:=.agg #[.slice none 0 0,.slice none 0 0,.slice none 0 0,.slice none 0 0,.slice none 0 0,.map none]
theorem Jv(D:DayM)(w:World)(h:DayAt w D)(hs:DaySm D)(hG:Globs w)(hz:checkN D≠0):Calls qp 73 #[dv D] w fun e w'=>e=.returned (.tuple #[dz,.int .i64 (checkN D)])/\Below w.heap.size w w':=by
 have hch:=fun W (hB:Below w.heap.size w W)=>ZP D W (h.keep hB) hs (hG.keep hB)
 generalize checkN D=r at *
 unfold dv dz at *
 clear h hG hs;obtain⟨ts,ta,tc,gs,ga,gc,os,oa,oc,hs,ha,hc,cs,ca,cc⟩:=D
 simp only at *
 have hb:(r != 0)=true:=by simp[hz]
 clear hz
 generalize Value.slice ta ts.length tc=x0 at *
 generalize Value.slice ga gs.length gc=x1 at *
 generalize Value.slice oa os.length oc=x2 at *
 generalize Value.slice ha hs.length hc=x3 at *
 generalize Value.slice ca cs.length cc=x4 at *
 go_enter (sf 73 f73),ntmps73;go_wp2_with (go_at_call 25;refine(hch _ (by go_grown)).mono ?_;rintro e w1 ⟨rfl,hB1⟩;(first|(replace hB:=bcl (by with_reducible assumption) hB1)|(replace hB:=bcl (by go_grown) hB1)|(have hB:=hB1));(try clear hc hg hz);obtain⟨hc,hg⟩:=zY hB;have hz:=hB.size;clear hB1;(try simp at hz);(try have hlt0:w.heap.size<w1.heap.size:=by omega));refine qfG results73 Zn Qo rfl rfl (u0:=.slice none 0 0) (u1:=.slice none 0 0) (u2:=.slice none 0 0) (u3:=.slice none 0 0) (u4:=.slice none 0 0) (u5:=.map none) ?_ ?_ ?_ ?_ ?_ ?_ ⟨rfl,?_⟩
 ·rw[hc _ _ (by simp)];go_cell
 ·rw[hc _ _ (by simp)];go_cell
 ·rw[hc _ _ (by simp)];go_cell
 ·rw[hc _ _ (by simp)];go_cell
 ·rw[hc _ _ (by simp)];go_cell
 ·rw[hc _ _ (by simp)];go_cell
 ·exact LoadR.Below.set6 (bcl (w:=w) (by go_grown) hB) (by simp)
theorem Jw(D:DayM)(w:World)(h:DayAt w D)(hs:DaySm D)(hG:Globs w)(hz:checkN D=0):Calls qp 73 #[dv D] w fun e w'=>∃M,e=.returned (.tuple #[dm D (some M),.int .i64 0])/\w.heap.size<=M/\Qu zf w' M (fun _=>none)/\Below w.heap.size w w':=by
 have hch:=fun W (hB:Below w.heap.size w W)=>ZP D W (h.keep hB) hs (hG.keep hB);rw[hz]at hch
 unfold dv dm at *
 clear h hG hs hz;obtain⟨ts,ta,tc,gs,ga,gc,os,oa,oc,hs,ha,hc,cs,ca,cc⟩:=D
 simp only at *
 go_enter (sf 73 f73),ntmps73;go_wp2_with (go_at_call 25;refine(hch _ (by go_grown)).mono ?_;rintro e w1 ⟨rfl,hB1⟩;have hzz:w.heap.size+1<w1.heap.size:=(by have:=hB1.size;simp at this;omega);have q0:=qb ⟨w.heap.size,0,none⟩ hB1 (v:=.slice ta ts.length tc) (by go_cell);have q1:=qb ⟨w.heap.size,1,none⟩ hB1 (v:=.slice ga gs.length gc) (by go_cell);have q2:=qb ⟨w.heap.size,2,none⟩ hB1 (v:=.slice oa os.length oc) (by go_cell);have q3:=qb ⟨w.heap.size,3,none⟩ hB1 (v:=.slice ha hs.length hc) (by go_cell);have q4:=qb ⟨w.heap.size,4,none⟩ hB1 (v:=.slice ca cs.length cc) (by go_cell);have hmk:=qal w1;have hM:=Qu.new (enc:=zf) w1;have hBm:=(Below.refl w1.heap.size w1).alloc ql (Obj.map #[] 0);obtain⟨W2,hW2⟩:∃W2,w1.alloc (Obj.map #[] 0)=W2:=⟨_,rfl⟩;rw[hW2]at hmk hM hBm;have hB2:=bcl hB1 hBm;have p0:=qb ⟨w.heap.size+1,0,none⟩ hB2 (v:=.slice none 0 0) (by go_cell);have f0:=qf ⟨w.heap.size+1,0,none⟩ hB2 (v:=.slice none 0 0) (by go_cell) (by go_cell);have p1:=qb ⟨w.heap.size+1,1,none⟩ hB2 (v:=.slice none 0 0) (by go_cell);have f1:=qf ⟨w.heap.size+1,1,none⟩ hB2 (v:=.slice none 0 0) (by go_cell) (by go_cell);have p2:=qb ⟨w.heap.size+1,2,none⟩ hB2 (v:=.slice none 0 0) (by go_cell);have f2:=qf ⟨w.heap.size+1,2,none⟩ hB2 (v:=.slice none 0 0) (by go_cell) (by go_cell);have p3:=qb ⟨w.heap.size+1,3,none⟩ hB2 (v:=.slice none 0 0) (by go_cell);have f3:=qf ⟨w.heap.size+1,3,none⟩ hB2 (v:=.slice none 0 0) (by go_cell) (by go_cell);have p4:=qb ⟨w.heap.size+1,4,none⟩ hB2 (v:=.slice none 0 0) (by go_cell);have f4:=qf ⟨w.heap.size+1,4,none⟩ hB2 (v:=.slice none 0 0) (by go_cell) (by go_cell);have p5:=qb ⟨w.heap.size+1,5,none⟩ hB2 (v:=.map none) (by go_cell);have f5:=qf ⟨w.heap.size+1,5,none⟩ hB2 (v:=.map none) (by go_cell) (by go_cell);have hB3:=bcl (w:=w) (by go_grown) hB2;have hsz:=hB1.size;simp at hsz;have HM:=qd hM;clear hM hW2 hB1 hBm hB2)
 refine qfG results73 Zn Qo rfl rfl (u0:=.slice none 0 0) (u1:=.slice none 0 0) (u2:=.slice none 0 0) (u3:=.slice none 0 0) (u4:=.slice none 0 0) (u5:=.map none) ?_ ?_ ?_ ?_ ?_ ?_ ⟨_,rfl,?_,?_,?_⟩
 ·exact p0
 ·exact p1
 ·exact p2
 ·exact p3
 ·exact p4
 ·exact p5
 ·omega
 ·exact HM.out.block (qfP (by omega))
 ·exact LoadR.Below.set6 hB3 (by simp)
end Go.Proofs.Tryz
namespace Go.Proofs.Tryz
open Go Go.Load Go.RowKit
theorem qac(s:Int)(l:List Int)(a:Option Addr)(c:Nat)(hlen:l.length<=1000/\l.length<=c)(w:World)(hQ:qi w 1 encI a l) :
 Calls qp 128 #[.slice a l.length c,.int .i64 s] w fun e w'=>(∃n:Int,e=.returned (.int .i64 n)/\((0<=n)↔(l.any fun x=>s==x)=true)/\n<=1000)/\w=w':=by
 go_enter (sf 128 f128),ntmps128;go_wp2;go_loopw [8] (fun i wr=>∃k:Nat,i=.int .i64 k/\k<=l.length/\wr=w/\Hid ((l.take k).any (fun x=>s==x)=false)) (fun i _=>l.length-(intOf i).toNat);case atStart=>exact⟨0,rfl,Nat.zero_le _,rfl,qd (by simp)⟩
 case round =>
  obtain⟨k,rfl,hk,rfl,HN⟩:=hrel;by_cases hlt:k<l.length
  ·obtain⟨b,o,rfl,hP⟩:=hQ (by omega);obtain⟨x,hx⟩:∃x,l[k]? = some x:=⟨l[k],by simp[hlt]⟩;have hkc:(k:Int)<=(c:Int):=(by omega);have c0:=hP k x hx 0 _ rfl;simp only[Nat.mul_one,Nat.add_zero]at c0;have HX:=qd hx;clear hP hx;obtain⟨r,hr⟩:∃r,(s==x)=r:=⟨_,rfl⟩;have HR:=qd hr
   cases r with
   | true =>
     go_wp2;go_ret;exact⟨⟨k,rfl,⟨fun _=>Zo _ HX.out HR.out,fun _=>Int.natCast_nonneg k⟩,by omega⟩,rfl⟩
   | false =>
     go_wp2;go_roundw;(case rel=>exact⟨k+1,rfl,by omega,(by first|rfl|trivial),qd (by rw[any_take_succ _ HX.out HN.out];exact HR.out)⟩);case measure=>simp[intOf];omega
  ·obtain rfl:k=l.length:=(by omega);have hany:=HN.out;rw[List.take_length]at hany;have HA:=qd hany;clear hany;go_wp2;go_ret;refine⟨⟨-1,rfl,⟨fun h=>absurd h (by decide),fun h=>?_⟩,by omega⟩,rfl⟩;rw[HA.out]at h;cases h
theorem YM(s:Int)(l:List Int)(a:Option Addr)(c:Nat)(hlen:l.length<=1000/\l.length<=c)(w:World)(hQ:qi w 1 encI a l) :
 Calls qp 103 #[.slice a l.length c,.int .i64 s] w fun e w'=>e=.returned (.bool (decide (s∈l)))/\w=w':=by
 have hI:=qac s l a c hlen w hQ;clear hQ;have he:decide (s∈l)=(l.any fun x=>s==x):=by rw[Bool.eq_iff_iff];simp
 rw[he];obtain⟨r,hr⟩:∃r,(l.any fun x=>s==x)=r:=⟨_,rfl⟩;simp only[hr]at hI⊢;clear he hr;go_enter (sf 103 f103),ntmps103;go_wp2_with (go_at_call 128;(with_reducible refine hI.mono ?_);rintro e w1 ⟨⟨n,rfl,hn,hn2⟩,rfl⟩);go_ret;refine⟨?_,rfl⟩;cases r<;>simp at hn<;>simp<;>omega
def PastM.get(p:PastM):Nat->Int
 | 0=>p.a
 | 1=>p.b
 | 2=>p.c
 | _=>p.d
def hitC(t:Int)(g:Int)(c:CalM)(x:WayM):Bool:=decide (c.co<=t)&&(decide (t<c.cl)&&decide (g∈x.l))
def Xw(t g:Int):List CalM->List WayM->Int
 | c::cs,x::xs=>(if hitC t g c x=true then 1 else 0)+Xw t g cs xs
 | _,_=>0
def hitH(t g:Int)(h:HldM):Bool:=decide (h.g=g)&&(decide (h.b<=t)&&decide (t<h.e))
def ZN(t g:Int):List HldM->Int
 | h::hs=>(if hitH t g h=true then h.m else 0)+ZN t g hs
 | []=>0
def YU(D:DayM)(p:PastM)(took:List WayM)(g:Nat)(t:Int):Int:=max 0 (p.get g-Xw t g D.cs took-ZN t g D.hs)
theorem XR(t g:Int){cs:List CalM}{xs:List WayM}{k:Nat}{c:CalM}{x:WayM}(h1:cs[k]? = some c)(h2:xs[k]? = some x):Xw t g (cs.drop k) (xs.drop k)=(if hitC t g c x=true then 1 else 0)+Xw t g (cs.drop (k+1)) (xs.drop (k+1)):=by
 obtain⟨hk,rfl⟩:=qB h1;obtain⟨hl,rfl⟩:=qB h2;rw[List.drop_eq_getElem_cons hk,List.drop_eq_getElem_cons hl];rfl
theorem qaK(t g:Int)(cs:List CalM):Xw t g cs []=0:=by cases cs<;>rfl
theorem XT(t g:Int){hs:List HldM}{k:Nat}{h:HldM}(h1:hs[k]? = some h):ZN t g (hs.drop k)=(if hitH t g h=true then h.m else 0)+ZN t g (hs.drop (k+1)):=by
 obtain⟨hk,rfl⟩:=qB h1;rw[List.drop_eq_getElem_cons hk];rfl
structure FreeOK (D:DayM) (p:PastM) (took:List WayM) (tc:Nat):Prop where
 len:took.length<=D.cs.length
 few:D.cs.length<=20
 cap:took.length<=tc
 ls:∀x∈took,x.l.length<=20/\x.l.length<=x.c
 hs:∀h∈D.hs,0<=h.m/\h.m<=6
 ps:∀g,0<=p.get g/\p.get g<=100
theorem qcf(D:DayM)(m:Option Nat)(p:PastM)(took:List WayM)(ta:Option Addr)(tc:Nat)(g:Nat)(hg:g<4)(t:Int)(w:World)(h:DayAt w D)(hs:DaySm D)(hok:FreeOK D p took tc)(hta:qi w 1 xu ta took)(htl:∀x∈took,qi w 1 encI x.a x.l) :
 Calls qp 60 #[dm D m,.agg #[.int .i64 p.a,.int .i64 p.b,.int .i64 p.c,.int .i64 p.d],.slice ta took.length tc,.int .i64 g,.int .i64 t] w fun e w'=>e=.returned (.int .i64 (YU D p took g t))/\Below w.heap.size w w':=by
 have hcs:=h.cs;have hhs:=h.hs;have scs:=hs.cs;have shs:=hs.hs;obtain⟨ol,of,oc,ols,ohs,ops⟩:=hok;have hco:=fun(x:WayM) (hx:x∈took) W (hB:Below w.heap.size w W)=>YM g x.l x.a x.c ⟨by have:=(ols x hx).1;omega,(ols x hx).2⟩ W ((htl x hx).keep hB);obtain⟨R,hR⟩:∃R,YU D p took g t=R:=⟨_,rfl⟩;rw[hR];unfold YU at hR;have hp:=ops g;obtain⟨P,hP⟩:∃P,p.get g=P:=⟨_,rfl⟩;rw[hP]at hR hp
 have hcell:∀W:World,W.cell? ⟨w.heap.size+1,0,none⟩=some (.int .i64 p.a)->W.cell? ⟨w.heap.size+1,1,none⟩=some (.int .i64 p.b)->W.cell? ⟨w.heap.size+1,2,none⟩=some (.int .i64 p.c)->W.cell? ⟨w.heap.size+1,3,none⟩=some (.int .i64 p.d)->W.cell? ⟨w.heap.size+1,g,none⟩=some (.int .i64 P):=by
  intro W h0 h1 h2 h3;subst hP
  match g,hg with
  | 0,_=>exact h0
  | 1,_=>exact h1
  | 2,_=>exact h2
  | 3,_=>exact h3
 unfold dm;have HCO:=qd hco;have HCS:=qd hcs;have HHS:=qd hhs;have HTA:=qd hta;have HMS:=qd ohs;clear h hs ols htl hco hcs hhs hta ohs ops hP;obtain⟨pa,pb,pc,pd⟩:=p;obtain⟨ts,ta2,tc2,gs,ga,gc,os,oa,oc2,hs,ha,hc,cs,ca,cc⟩:=D
 simp only at *
 generalize Value.slice ta2 ts.length tc2=x1 at *
 generalize Value.slice ga gs.length gc=x2 at *
 generalize Value.slice oa os.length oc2=x3 at *
 have HR:=qd hR;clear hR;have hg0:(0:Int)<=(g:Int):=Int.natCast_nonneg g;have hg1:(g:Int)<4:=by omega
 go_enter (sf 60 f60),ntmps60;obtain⟨W,hW⟩:∃W,(w.alloc (Obj.cells #[x1,x2,x3,.slice ha hs.length hc,.slice ca cs.length cc,.map m] 73)).alloc (Obj.cells #[.int .i64 pa,.int .i64 pb,.int .i64 pc,.int .i64 pd] 81)=W:=⟨_,rfl⟩;have h6:B6 W w.heap.size x1 x2 x3 (.slice ha hs.length hc) (.slice ca cs.length cc) (.map m):=by subst hW;exact⟨by go_cell,by go_cell,by go_cell,by go_cell,by go_cell,by go_cell⟩
 have hpg:W.cell? ⟨w.heap.size+1,g,none⟩=some (.int .i64 P):=by subst hW;exact hcell _ (by go_cell) (by go_cell) (by go_cell) (by go_cell)
 have hBW:Below w.heap.size w W:=by subst hW;go_grown
 clear hcell;go_wp2;try rw[hW]
 clear hW hpg;go_loopw [22,11] (fun i q wr=>∃(k:Nat) (A:Int),i=.int .i64 k/\q=.int .i64 A/\k<=took.length/\-(k:Int)<=A/\A<=100/\Below W.heap.size W wr/\Hid (A-Xw t g (cs.drop k) (took.drop k)=P-Xw t g cs took)) (fun i _ _=>took.length-(intOf i).toNat);case atStart=>exact⟨0,P,rfl,rfl,by omega,by omega,by omega,Below.refl _ _,qd (by simp)⟩
 case round =>
  obtain⟨k,A,rfl,rfl,hk,hA0,hA1,hBr,HE⟩:=hrel;obtain⟨k0,k1,k2,k3,k4,k5⟩:=h6.keep hBr;have hBw:=bcl hBW hBr;have hz:=lt_of_cell k0;have hzW:=hBr.size;simp only at hz;by_cases hlt:k<took.length
  ·obtain⟨b,o,rfl,hP⟩:=HCS.out (by show 1<=cs.length;omega);obtain⟨c,hx⟩:∃x,cs[k]? = some x:=⟨cs[k]'(by omega),by simp⟩;obtain⟨x,hy⟩:∃x,took[k]? = some x:=⟨took[k],by simp[hlt]⟩;obtain⟨tb,t0,rfl,hQ⟩:=HTA.out (by omega);have hkc:(k:Int)<=(cc:Int):=(by omega);have hkl:(k:Int)<(cs.length:Int):=(by omega);have hkt:(k:Int)<=(tc:Int):=(by omega);have c0:=qb _ hBw (hP k c hx 0 _ rfl);have c1:=qb _ hBw (hP k c hx 1 _ rfl);have c2:=qb _ hBw (hP k c hx 2 _ rfl);have c3:=qb _ hBw (hP k c hx 3 _ rfl);have c4:=qb _ hBw (hP k c hx 4 _ rfl);have d0:=qb _ hBw (hQ k x hy 0 _ rfl);simp only[Nat.mul_one,Nat.add_zero]at c0 d0;have hco:=HCO.out x (qI hy);have hA:=HE.out;rw[XR t g hx hy]at hA;unfold hitC at hA;clear hP hQ hx hy;obtain⟨fr,tw,co,cl,se⟩:=c;obtain⟨xl,xa,xc⟩:=x
   simp only at *
   generalize decide ((g:Int)∈xl)=I at *
   have hwr:wrap64 (A-1)=A-1:=(by unfold wrap64;omega);by_cases e1:co<=t
   ·by_cases e2:t<cl
    ·cases I with
     | true =>
       have HA:=qd hA;clear hA;go_wp2_with (go_at_call 103;(with_reducible refine(hco _ (by go_grown)).mono ?_);rintro e w1 ⟨rfl,rfl⟩);go_roundw;(case rel=>exact⟨k+1,A-1,rfl,rfl,by omega,by omega,by omega,by go_grown,qd (by have e:=HA.out;simp[e1,e2]at e;omega)⟩);case measure=>simp[intOf];omega
     | false =>
       have HA:=qd hA;clear hA;go_wp2_with (go_at_call 103;(with_reducible refine(hco _ (by go_grown)).mono ?_);rintro e w1 ⟨rfl,rfl⟩);go_roundw;(case rel=>exact⟨k+1,A,rfl,rfl,by omega,by omega,by omega,by go_grown,qd (by have e:=HA.out;simp at e;omega)⟩);case measure=>simp[intOf];omega
    ·have HA:=qd hA;clear hA;go_wp2;go_roundw;(case rel=>exact⟨k+1,A,rfl,rfl,by omega,by omega,by omega,by go_grown,qd (by have e:=HA.out;simp[e2]at e;omega)⟩);case measure=>simp[intOf];omega
   ·have HA:=qd hA;clear hA;go_wp2;go_roundw;(case rel=>exact⟨k+1,A,rfl,rfl,by omega,by omega,by omega,by go_grown,qd (by have e:=HA.out;simp[e1]at e;omega)⟩);case measure=>simp[intOf];omega
  ·obtain rfl:k=took.length:=(by omega);have hA:=HE.out;rw[List.drop_eq_nil_of_le (Nat.le_refl took.length),qaK]at hA;have HA:=qd hA;clear hA;go_wp2;clear HCO HTA HE;have hU:=HA.out;rw[Int.sub_zero]at hU;have hA2:-20<=A:=(by omega);clear HA hA0;have HU:=qd hU;clear hU;obtain⟨V,hV⟩:∃V,V=wr:=⟨_,rfl⟩;subst hV;go_loopw [55,11] (fun i q wr=>∃(k:Nat) (B:Int),i=.int .i64 k/\q=.int .i64 B/\k<=hs.length/\-20-6*(k:Int)<=B/\B<=100/\Below W.heap.size W wr/\Hid (B-ZN t g (hs.drop k)=A-ZN t g hs)) (fun i _ _=>hs.length-(intOf i).toNat);case atStart=>exact⟨0,A,rfl,rfl,by omega,by omega,by omega,hBr,qd (by simp)⟩
   case round =>
    clear k0 k1 k2 k3 k4 k5 hBw hz hzW;obtain⟨k,B,rfl,rfl,hk,hB0,hB1,hBr,HE⟩:=hrel;obtain⟨k0,k1,k2,k3,k4,k5⟩:=h6.keep hBr;have hBw:=bcl hBW hBr;have hz:=lt_of_cell k0;have hzW:=hBr.size;simp only at hz;by_cases hlt:k<hs.length
    ·obtain⟨b,o,rfl,hP⟩:=HHS.out (by show 1<=hs.length;omega);obtain⟨h,hx⟩:∃x,hs[k]? = some x:=⟨hs[k],by simp[hlt]⟩;have hkc:(k:Int)<=(hc:Int):=(by omega);have c0:=qb _ hBw (hP k h hx 0 _ rfl);have c1:=qb _ hBw (hP k h hx 1 _ rfl);have c2:=qb _ hBw (hP k h hx 2 _ rfl);have c3:=qb _ hBw (hP k h hx 3 _ rfl);simp only[Nat.add_zero]at c0;obtain⟨hm0,hm6⟩:=HMS.out h (qI hx);have hA:=HE.out;rw[XT t g hx]at hA;unfold hitH at hA;clear hP hx;obtain⟨hg3,hm,hb,he⟩:=h
     simp only at *
     have hwr:wrap64 (B-hm)=B-hm:=(by unfold wrap64;omega);by_cases e1:hg3=(g:Int)
     ·subst e1;by_cases e2:hb<=t
      ·by_cases e3:t<he
       ·have HA:=qd hA;clear hA;go_wp2;go_roundw;(case rel=>exact⟨k+1,B-hm,rfl,rfl,by omega,by omega,by omega,by go_grown,qd (by have e:=HA.out;simp[e2,e3]at e;omega)⟩);case measure=>simp[intOf];omega
       ·have HA:=qd hA;clear hA;go_wp2;go_roundw;(case rel=>exact⟨k+1,B,rfl,rfl,by omega,by omega,by omega,by go_grown,qd (by have e:=HA.out;simp[e3]at e;omega)⟩);case measure=>simp[intOf];omega
      ·have HA:=qd hA;clear hA;go_wp2;go_roundw;(case rel=>exact⟨k+1,B,rfl,rfl,by omega,by omega,by omega,by go_grown,qd (by have e:=HA.out;simp[e2]at e;omega)⟩);case measure=>simp[intOf];omega
     ·have hne:(hg3==(g:Int))=false:=(by simpa using e1);have HA:=qd hA;clear hA;go_wp2;go_roundw;(case rel=>exact⟨k+1,B,rfl,rfl,by omega,by omega,by omega,by go_grown,qd (by have e:=HA.out;simp[e1]at e;omega)⟩);case measure=>simp[intOf];omega
    ·obtain rfl:k=hs.length:=(by omega);have hA:=HE.out;rw[List.drop_eq_nil_of_le (Nat.le_refl hs.length)]at hA;have hA2:B=A-ZN t g hs:=(by have e:ZN t g []=0:=rfl;omega);have hF:R=max 0 B:=(by rw[<-HR.out,HU.out.symm,hA2]);have HF:=qd hF;clear hA hA2 hF;go_wp2
     all_goals
      go_ret;have e:=HF.out;exact⟨congrArg (fun n=>Ending.returned (Value.int .i64 n)) (by omega),hBw⟩
def Za:WayM:=⟨[],none,0⟩
def SetM.turn(s:SetM):Nat->Int
 | 0=>s.t0
 | 1=>s.t1
 | _=>s.t2
def qbJ(D:DayM)(s:SetM)(c:CalM):Bool:=decide (0<=s.order)&&decide (s.order=zG D c)
def wayK(D:DayM)(s:SetM)(c:CalM)(k:Nat):WayM:=if qbJ D s c=true then(qK D c).ws.getD (s.turn k).toNat Za else(qK D c).ws.getD k Za
def Jm(D:DayM)(p:PastM)(took:List WayM)(t:Int)(x:WayM):Bool:=x.l.any fun g=>decide (YU D p took g.toNat t=0)
def yR(D:DayM)(s:SetM)(took:List WayM)(c:CalM):Nat->Nat->Int×WayM
 | 0,_=>(-1,Za)
 | n+1,k=>if Jm D s.p took c.co (wayK D s c k)=true then yR D s took c n (k+1)else(k,wayK D s c k)
def jL(a:Int)(i:Nat):Bool:=decide (a/2 ^ i%2=1)
def ZK(D:DayM)(s:SetM)(i:Nat)(took:List WayM)(c:CalM):Int×WayM:=if jL s.away i=true then(-2,Za)else yR D s took c (qK D c).ws.length 0
def yn(D:DayM)(s:SetM):Nat->List WayM->List CalM->List Int
 | _,_,[]=>[]
 | i,took,c::cs=>(ZK D s i took c).1::yn D s (i+1) (took++[(ZK D s i took c).2]) cs
def qD(D:DayM)(s:SetM):List Int:=yn D s 0 [] D.cs
theorem Ze(D:DayM)(s:SetM):∀(i:Nat) (took:List WayM) (cs:List CalM),(yn D s i took cs).length=cs.length
 | _,_,[]=>rfl
 | i,took,c::cs=>by rw[yn,List.length_cons,Ze D s _ _ cs,List.length_cons]
theorem qH(D:DayM)(s:SetM):(qD D s).length=D.cs.length:=Ze D s _ _ _
structure DayOK (D:DayM):Prop where
 gs:D.gs.length<=4
 os:D.os.length<=6
 cs:D.cs.length<=8
 ws:∀o∈D.os,o.ws.length<=3
 ks:∀o∈D.os,∀x∈o.ws,∀k∈x.l,0<=k/\k<D.gs.length
 hs:∀h∈D.hs,0<=h.m/\h.m<=6
theorem qfC(D:DayM)(m:Option Nat)(p:PastM)(took:List WayM)(ta:Option Addr)(tc:Nat)(g:Nat)(hg:g<4)(t:Int)(b1 b2 b3 b4:Nat)(w:World)(h:DayAt w D)(hs:DaySm D)(hok:FreeOK D p took tc)(hta:qi w 1 xu ta took)(htl:∀x∈took,qi w 1 encI x.a x.l)
 (h6:B6 w b1 (.slice D.ta D.ts.length D.tc) (.slice D.ga D.gs.length D.gc) (.slice D.oa D.os.length D.oc) (.slice D.ha D.hs.length D.hc) (.slice D.ca D.cs.length D.cc) (.map m))
 (p0:w.cell? ⟨b2,0,none⟩=some (.int .i64 p.a)) (p1:w.cell? ⟨b2,1,none⟩=some (.int .i64 p.b)) (p2:w.cell? ⟨b2,2,none⟩=some (.int .i64 p.c)) (p3:w.cell? ⟨b2,3,none⟩=some (.int .i64 p.d))
 (t0:w.cell? ⟨b3,0,none⟩=some (.slice ta took.length tc)) (c2:w.cell? ⟨b4,2,none⟩=some (.int .i64 t)) :
 Calls qp 101 #[.int .i64 g,.pointer (some ⟨b1,0,none⟩),.pointer (some ⟨b2,0,none⟩),.pointer (some ⟨b3,0,none⟩),.pointer (some ⟨b4,0,none⟩)] w fun e w'=>e=.returned (.bool (decide (YU D p took g t=0)))/\Below w.heap.size w w':=by
 have hfr:=qcf D m p took ta tc g hg t w h hs hok hta htl
 generalize YU D p took g t=R at *
 clear h hs hok hta htl;unfold dm at hfr;obtain⟨k0,k1,k2,k3,k4,k5⟩:=h6;obtain⟨pa,pb,pc,pd⟩:=p
 simp only at *
 generalize Value.slice D.ta D.ts.length D.tc=x0 at *
 generalize Value.slice D.ga D.gs.length D.gc=x1 at *
 generalize Value.slice D.oa D.os.length D.oc=x2 at *
 generalize Value.slice D.ha D.hs.length D.hc=x3 at *
 generalize Value.slice D.ca D.cs.length D.cc=x4 at *
 by_cases hR:R=0
 ·subst hR;go_enter (sf 101 f101),ntmps101;go_wp2_with (go_at_call 60;(with_reducible refine hfr.mono ?_);rintro e w1 ⟨rfl,hB1⟩);go_ret;exact⟨by simp,hB1⟩
 ·have hne:(R==0)=false:=by simpa using hR
  go_enter (sf 101 f101),ntmps101;go_wp2_with (go_at_call 60;(with_reducible refine hfr.mono ?_);rintro e w1 ⟨rfl,hB1⟩);go_ret;exact⟨by simp[hR],hB1⟩
theorem full_any(D:DayM)(m:Option Nat)(p:PastM)(took:List WayM)(ta:Option Addr)(tc:Nat)(x:WayM)(t:Int)(b1 b2 b3 b4:Nat)(w:World)(h:DayAt w D)(hs:DaySm D)(hok:FreeOK D p took tc)(hta:qi w 1 xu ta took)(htl:∀x∈took,qi w 1 encI x.a x.l)
 (hx:x.l.length<=20) (hxr:qi w 1 encI x.a x.l) (hx4:∀k∈x.l,0<=k/\k<4)
 (h6:B6 w b1 (.slice D.ta D.ts.length D.tc) (.slice D.ga D.gs.length D.gc) (.slice D.oa D.os.length D.oc) (.slice D.ha D.hs.length D.hc) (.slice D.ca D.cs.length D.cc) (.map m))
 (p0:w.cell? ⟨b2,0,none⟩=some (.int .i64 p.a)) (p1:w.cell? ⟨b2,1,none⟩=some (.int .i64 p.b)) (p2:w.cell? ⟨b2,2,none⟩=some (.int .i64 p.c)) (p3:w.cell? ⟨b2,3,none⟩=some (.int .i64 p.d))
 (t0:w.cell? ⟨b3,0,none⟩=some (.slice ta took.length tc)) (c2:w.cell? ⟨b4,2,none⟩=some (.int .i64 t)) :
 Calls qp 100 #[.slice x.a x.l.length x.c,.func (.func 101) #[] #[.pointer (some ⟨b1,0,none⟩),.pointer (some ⟨b2,0,none⟩),.pointer (some ⟨b3,0,none⟩),.pointer (some ⟨b4,0,none⟩)]] w fun e w'=>e=.returned (.bool (Jm D p took t x))/\Below w.heap.size w w' :=
 qbc 101 #[.pointer (some ⟨b1,0,none⟩),.pointer (some ⟨b2,0,none⟩),.pointer (some ⟨b3,0,none⟩),.pointer (some ⟨b4,0,none⟩)] (fun _ _=>by kernel_rfl) (fun g=>decide (YU D p took g.toNat t=0)) x.l x.a x.c (by omega) (fun W=>Below w.heap.size w W) (fun W hW=>hxr.keep hW) w (Below.refl _ _)
  (fun i g hi W (hW:Below w.heap.size w W)=>by
    obtain⟨g0,g4⟩:=hx4 g (qI hi);obtain⟨n,rfl⟩:=Int.eq_ofNat_of_zero_le g0
    exact(qfC D m p took ta tc n (by omega) t b1 b2 b3 b4 W (h.keep hW) hs hok (hta.keep hW) (fun y hy=>(htl y hy).keep hW) (h6.keep hW) (qb _ hW p0) (qb _ hW p1) (qb _ hW p2) (qb _ hW p3) (qb _ hW t0) (qb _ hW c2)).mono fun e w' ⟨he,hB1⟩=>⟨he,bcl hW hB1⟩)
end Go.Proofs.Tryz
namespace Go.Proofs.Tryz
open Go Go.Load Go.RowKit Go.Maps
theorem Xp{w w1:World}(h:Below w.heap.size w w1):w.grownBy w1 none:=⟨h.os,h.tape,h.output,h.size,fun k hk _=>h.block k hk⟩
theorem qV{w w1:World}{base e size n:Nat}{v:Value}{xs:List Value}(h:w.ownsRow base e size v n xs)(hB:Below w.heap.size w w1):w1.ownsRow base e size v n xs:=h.kept (Xp hB) (by cases v.ownBlock<;>simp)
theorem Jq:(Tryz.prog.info? 3).map (fun i=>(i.zero,i.size,i.bytes))=some (some (.int .i64 0),1,8):=by kernel_rfl
theorem YW:(Tryz.prog.info? 31).map (fun i=>(i.zero,i.size,i.bytes))=some (some (.slice none 0 0),1,24):=by kernel_rfl
theorem zK{X:World}{ad:Addr}{v:Value}(h:X.cell? ad=some v):∀j u,[v][j]? = some u->X.cell? (ad.add j)=some u:=by
 intro j u hu
 cases j with
 | zero=>simp at hu;subst hu;exact h
 | succ j=>simp at hu
theorem jm(w:World)(p:Addr)(v:Value):w.grownBy (w.setCell p v) (some p.block):=⟨rfl,rfl,rfl,by simp,fun k _ hne=>Below.heap_setCell _ _ _ _ (fun e=>hne (congrArg some e))⟩
def wvW(x:WayM):Value:=.slice x.a x.l.length x.c
theorem Zd{w:World}{base:Nat}{e:TypeId}{v:Value}{n:Nat}{xs:List Value}(h:w.ownsRow base e 1 v n xs):∃a c,v=.slice a n c/\n<=c/\∀(i:Nat) (u:Value),xs[i]? = some u->∃g,a=some ⟨g,0,none⟩/\w.cell? ⟨g,i,none⟩=some u:=by
 obtain⟨hl,⟨rfl,rfl⟩|⟨g,cap,cur,rfl,hb,hg,h1,h2,h3,h4⟩⟩:=h
 ·refine⟨none,0,rfl,ql,fun i u hi=>?_⟩;have:xs=[]:=List.length_eq_zero_iff.1 (by simpa using hl);subst this;cases hi
 ·refine⟨_,cap,rfl,h1,fun i u hi=>⟨g,rfl,?_⟩⟩;rw[<-h4,List.getElem?_take]at hi;split at hi
  ·simp only[World.cell?,hg];simpa using hi
  ·cases hi
structure PI (tb:Nat) (wr:World) (out:Value) (outs:List Int) (tv:Value) (took:List WayM):Prop where
 c:wr.cell? ⟨tb,0,none⟩=some tv
 f:wr.frozen? ⟨tb,0,none⟩=false
 o1:wr.ownsRow (tb+1) 3 1 out outs.length (outs.map (.int .i64))
 o2:wr.ownsRow (tb+1) 31 1 tv took.length (took.map wvW)
 ne:∀b,out.ownBlock=some b->tv.ownBlock≠some b
section
variable {tb:Nat} {wr X1 Y1 X2 Y2:World} {out tv:Value} {outs:List Int} {took:List WayM}
theorem PI.keep(h:PI tb wr out outs tv took)(hB:Below wr.heap.size wr X1):PI tb X1 out outs tv took :=
 ⟨qb _ hB h.c,qf _ hB h.c h.f,qV h.o1 hB,qV h.o2 hB,h.ne⟩
theorem PI.hold(h:PI tb wr out outs tv took)(e1:Below wr.heap.size wr X1)(q1:X1.grownBy Y1 out.ownBlock):Y1.cell? ⟨tb,0,none⟩=some tv/\Y1.frozen? ⟨tb,0,none⟩=false:=by
 have hne:some tb≠out.ownBlock:=fun e=>by have:=(h.o1.lt _ e.symm).1;omega
 have c1:=qb _ e1 h.c;exact⟨q1.cell c1 hne,by rw[q1.frozen_far ⟨tb,0,none⟩ (lt_of_cell c1) hne];exact qf _ e1 h.c h.f⟩
theorem PI.own2(h:PI tb wr out outs tv took)(e1:Below wr.heap.size wr X1)(q1:X1.grownBy Y1 out.ownBlock)(e2:Below Y1.heap.size Y1 X2):X2.ownsRow (tb+1) 31 1 tv took.length (took.map wvW):=by
 refine qV ((qV h.o2 e1).kept q1 ?_) e2
 cases ht:tv.ownBlock with
 | none=>exact .inl rfl
 | some b=>right;intro e;exact h.ne b e.symm ht
theorem PI.rows(h:PI tb wr out outs tv took):∃ta tc,tv=.slice ta took.length tc/\took.length<=tc/\qi wr 1 xu ta took:=by
 obtain⟨a,c,e,l,r⟩:=Zd h.o2;refine⟨a,c,e,l,fun hn=>?_⟩;obtain⟨x,hx⟩:∃x,took[0]? = some x:=⟨took[0],by simp⟩;obtain⟨g,rfl,_⟩:=r 0 (wvW x) (by simp[hx]);refine⟨g,0,rfl,fun i y hy j v hv=>?_⟩;obtain⟨g',e',h'⟩:=r i (wvW y) (by simp[hy]);cases e'
 cases j with
 | zero=>simp[xu]at hv;subst hv;simpa[wvW]using h'
 | succ j=>simp[xu]at hv
theorem PI.outrow(h:PI tb wr out outs tv took):∃a c,out=.slice a outs.length c/\outs.length<=c/\qi wr 1 encI a outs:=by
 obtain⟨a,c,e,l,r⟩:=Zd h.o1;refine⟨a,c,e,l,fun hn=>?_⟩;obtain⟨x,hx⟩:∃x,outs[0]? = some x:=⟨outs[0],by simp⟩;obtain⟨g,rfl,_⟩:=r 0 (.int .i64 x) (by simp[hx]);refine⟨g,0,rfl,fun i y hy j v hv=>?_⟩;obtain⟨g',e',h'⟩:=r i (.int .i64 y) (by simp[hy]);cases e'
 cases j with
 | zero=>simp[encI]at hv;subst hv;simpa using h'
 | succ j=>simp[encI]at hv
theorem PI.hold2(h:PI tb wr out outs tv took)(e1:Below wr.heap.size wr X1)(q1:X1.grownBy Y1 out.ownBlock)(e2:Below Y1.heap.size Y1 X2)(q2:X2.grownBy Y2 tv.ownBlock):Y2.cell? ⟨tb,0,none⟩=some tv/\Y2.frozen? ⟨tb,0,none⟩=false:=by
 have hc:=h.hold e1 q1;have l2:=h.o2.lt;have ht2:some tb≠tv.ownBlock:=fun e=>by have:=(l2 _ e.symm).1;omega
 have cx:=qb _ e2 hc.1;have fx:=qf _ e2 hc.1 hc.2;exact⟨q2.cell cx ht2,by rw[q2.frozen_far ⟨tb,0,none⟩ (lt_of_cell cx) ht2];exact fx⟩
theorem PI.step{k:Int}{x:WayM}{g1 g2 c1 c2:Nat}(h:PI tb wr out outs tv took)(e1:Below wr.heap.size wr X1)(q1:X1.grownBy Y1 out.ownBlock)
 (n1:Y1.ownsRow (tb+1) 3 1 (.slice (some ⟨g1,0,none⟩) (outs.length+1) c1) (outs.length+1) (outs.map (.int .i64)++[.int .i64 k])) (a1:out.ownBlock=some g1\/g1=X1.heap.size)
 (e2:Below Y1.heap.size Y1 X2) (q2:X2.grownBy Y2 tv.ownBlock)
 (n2:Y2.ownsRow (tb+1) 31 1 (.slice (some ⟨g2,0,none⟩) (took.length+1) c2) (took.length+1) (took.map wvW++[wvW x])) (a2:tv.ownBlock=some g2\/g2=X2.heap.size) :
 PI tb (Y2.setCell ⟨tb,0,none⟩ (.slice (some ⟨g2,0,none⟩) (took.length+1) c2)) (.slice (some ⟨g1,0,none⟩) (outs.length+1) c1) (outs++[k]) (.slice (some ⟨g2,0,none⟩) (took.length+1) c2) (took++[x]) /\
  Below tb wr (Y2.setCell ⟨tb,0,none⟩ (.slice (some ⟨g2,0,none⟩) (took.length+1) c2)):=by
 have hc:=h.hold e1 q1;have l1:=h.o1.lt;have l2:=h.o2.lt;have m1:=n1.lt g1 rfl;have m2:=n2.lt g2 rfl;have s1:=e1.size;have s2:=q1.size;have s3:=e2.size;have s4:=q2.size;have ht2:some tb≠tv.ownBlock:=fun e=>by have:=(l2 _ e.symm).1;omega
 have cx:=qb _ e2 hc.1;have fx:=qf _ e2 hc.1 hc.2;have cy:=q2.cell cx ht2;have fy:Y2.frozen? ⟨tb,0,none⟩=false:=by rw[q2.frozen_far ⟨tb,0,none⟩ (lt_of_cell cx) ht2];exact fx
 have hlt:tb<wr.heap.size:=lt_of_cell h.c
 have hg:g1≠g2:=by
  rcases a1 with a1|a1<;>rcases a2 with a2|a2
  ·intro e;subst e;exact h.ne _ a1 a2
  ·have:=(l1 _ a1).2;omega
  ·have:=(l2 _ a2).2;omega
  ·omega
 have hg1t:tv.ownBlock≠some g1:=by
  intro e;rcases a1 with a1|a1
  ·exact h.ne _ a1 e
  ·have:=(l2 _ e).2;omega
 refine⟨⟨qA (qL cy),by simpa using fy,?_,?_,?_⟩,?_⟩
 ·have o:=((qV n1 e2).kept q2 (.inr fun e=>hg1t e.symm)).kept (jm Y2 ⟨tb,0,none⟩ (.slice (some ⟨g2,0,none⟩) (took.length+1) c2)) (.inr (by intro e;have e2:g1=tb:=qz e;omega));simpa using o
 ·have o:=n2.kept (jm Y2 ⟨tb,0,none⟩ (.slice (some ⟨g2,0,none⟩) (took.length+1) c2)) (.inr (by intro e;have e2:g2=tb:=qz e;omega));simpa using o
 ·intro b hb e;have e1:g1=b:=qz hb;have e2:g2=b:=qz e;omega
 ·have b1:Below tb wr X1:=e1.mono (by omega);have b2:Below tb wr Y1:=b1.grown q1 (by omega) (fun j hj=>by have:=(l1 j hj).1;omega);have b3:Below tb wr X2:=b2.trans (e2.mono (by omega));have b4:Below tb wr Y2:=b3.grown q2 (by omega) (fun j hj=>by have:=(l2 j hj).1;omega);exact b4.setCell ql _
end
end Go.Proofs.Tryz
