/-
  Lemmas about the program and the machine (D2 to Q5), upon which the last text of this claim rests; no condition.
-/
import Derived.Test.YtjkbbnphdbgjiaaGreatDoorE02
set_option linter.unusedSimpArgs false
set_option linter.unusedVariables false
set_option maxRecDepth 100000
set_option maxHeartbeats 2000000
namespace Go.Proofs.Tryz
open Go Go.Load Go.LoadR Go.RowKit
theorem qcj{s:ByteArray}:∀(l m:List ByteArray) (i:Nat),qaa s (l++m) i=if(l.any fun x=>s.toList==x.toList)=true then qaa s l i else qaa s m (i+l.length)
 | [],m,i=>by simp
 | x::l,m,i=>by
   simp only[List.cons_append,qaa,List.any_cons]
   have hsym:(x.toList==s.toList)=(s.toList==x.toList):=by
    rw[Bool.eq_iff_iff];simp only[beq_iff_eq];exact⟨Eq.symm,Eq.symm⟩
   rw[hsym];by_cases hq:(s.toList==x.toList)=true
   ·simp only[hq,Bool.true_or,if_true]
   ·simp only[hq,Bool.false_eq_true,if_false,Bool.or_eq_true,false_or];rw[qcj l m (i+1),List.length_cons,show i+1+l.length=i+(l.length+1) by omega]
theorem XJ{s:ByteArray}:∀(l:List ByteArray) (i:Nat),(l.any fun x=>s.toList==x.toList)=true->(i:Int)<=qaa s l i/\qaa s l i<i+l.length
 | [],_,h=>by simp at h
 | x::l,i,h=>by
   simp only[List.any_cons,Bool.or_eq_true]at h;unfold qaa
   have hsym:(x.toList==s.toList)=(s.toList==x.toList):=by
    rw[Bool.eq_iff_iff];simp only[beq_iff_eq];exact⟨Eq.symm,Eq.symm⟩
   rw[hsym];by_cases hx:(s.toList==x.toList)=true
   ·rw[if_pos hx];simp only[List.length_cons];omega
   ·rw[if_neg hx];have h2:=XJ l (i+1) (h.resolve_left hx);simp only[List.length_cons];omega
theorem qbj{ts:List ByteArray}{k:Nat}{s:ByteArray}(h:ts[k]? = some s):qaa s ts 0<(k:Int)↔((ts.take k).any fun x=>s.toList==x.toList)=true:=by
 obtain⟨hk,rfl⟩:=qB h;have e:ts=ts.take k++ts.drop k:=(List.take_append_drop k ts).symm;have hl:(ts.take k).length=k:=by rw[List.length_take];omega
 have h1:=qcj (s:=ts[k]) (ts.take k) (ts.drop k) 0;rw[<-e]at h1;rw[h1];by_cases ha:((ts.take k).any fun x=>ts[k].toList==x.toList)=true
 ·rw[if_pos ha];have:=XJ (s:=ts[k]) (ts.take k) 0 ha;exact⟨fun _=>ha,fun _=>by omega⟩
 ·rw[if_neg ha]
  have:qaa ts[k] (ts.drop k) (0+(ts.take k).length)=k:=by
   rw[hl,Nat.zero_add,qab h,if_pos (by simp)]
  rw[this];exact⟨fun h=>absurd h (by omega),fun h=>absurd h ha⟩
theorem qdG(D:DayM)(w:World)(h:DayAt w D)(hs:DaySm D):Calls qp 76 #[dv D] w fun e w'=>e=.returned (.int .i64 (QB D))/\Below w.heap.size w w':=by
 have hts:=h.ts;have hsm:=hs.ts;have hnm:=hs.nm;obtain⟨R,hR⟩:∃R,QB D=R:=⟨_,rfl⟩;rw[hR];unfold QB at hR;unfold dv;clear h hs;obtain⟨ts,ta,tc,gs,ga,gc,os,oa,oc,hs,ha,hc,cs,ca,cc⟩:=D
 simp only at *
 generalize Value.slice ga gs.length gc=x1;generalize Value.slice oa os.length oc=x2;generalize Value.slice ha hs.length hc=x3;generalize Value.slice ca cs.length cc=x4;have hwi:=Yy ts.length 2 5;obtain⟨r,hr⟩:∃r,btw ts.length 2 5=r:=⟨_,rfl⟩;rw[hr]at hwi hR
 cases r with
 | false =>
   simp at hR;subst hR;clear hts hnm;go_enter (sf 76 f76),ntmps76;go_wp2_with (go_at_call 21;(with_reducible refine(hwi _).mono ?_);rintro e w1 ⟨rfl,rfl⟩);go_ret;exact⟨rfl,by go_grown⟩
 | true =>
   have hlen:=zS.1 hr;simp at hR;have HR:=qd hR;obtain⟨b,o,rfl,hP⟩:=hts (by omega);have HP:=qd hP;have HN:=qd hnm;have HT:=qd hts;clear hR hP hnm hr hts;go_enter (sf 76 f76),ntmps76;obtain⟨W,hW⟩:∃W,w.alloc (Obj.cells #[.slice (some ⟨b,o,none⟩) ts.length tc,x1,x2,x3,x4] 28)=W:=⟨_,rfl⟩;have k0:W.cell? ⟨w.heap.size,0,none⟩=some (.slice (some ⟨b,o,none⟩) ts.length tc):=(by subst hW;go_cell);have hBW:Below w.heap.size w W:=(by subst hW;go_grown);go_wp2_with (go_at_call 21;(with_reducible refine(hwi _).mono ?_);rintro e w1 ⟨rfl,rfl⟩);(try rw[hW]);clear hW;go_loopw [3] (fun i wr=>∃k:Nat,i=.int .i64 k/\k<=ts.length/\Below W.heap.size W wr/\Hid (zA (qbG ts) k (ts.drop k)=R)) (fun i _=>ts.length-(intOf i).toNat);case atStart=>exact⟨0,rfl,by omega,Below.refl _ _,HR⟩
   case round =>
    obtain⟨k,rfl,hk,hBr,HE⟩:=hrel;have k0:=qb _ hBr k0;have hBw:=bcl hBW hBr;by_cases hlt:k<ts.length
    ·have hkc:(k:Int)<=(tc:Int):=(by omega);obtain⟨s,hx⟩:∃x,ts[k]? = some x:=⟨ts[k],by simp[hlt]⟩;have c0:=qb _ hBw (HP.out k s hx 0 _ rfl);simp only[Nat.mul_one,Nat.add_zero]at c0;have hnm:=fun W=>qbu s (HN.out s (qI hx)) W;have hix:=fun(W:World) (hB:Below w.heap.size w W)=>qaT ts s (some ⟨b,o,none⟩) tc (by omega) (by omega) W (HT.out.keep hB);have hbef:=qbj hx;have hA:=HE.out;rw[zT _ hx]at hA;obtain⟨r1,h1⟩:∃r,Yk s=r:=⟨_,rfl⟩;obtain⟨r2,h2⟩:∃r,((ts.take k).any fun x=>s.toList==x.toList)=r:=⟨_,rfl⟩;obtain⟨I,hI⟩:∃I,qaa s ts 0=I:=⟨_,rfl⟩;have ht:qbG ts k s=if r1=false then 4 else if r2=true then 5 else 0:=(by unfold qbG;rw[h1,h2]);rw[ht]at hA;simp only[h1]at hnm;rw[h2,hI]at hbef;simp only[hI]at hix;clear ht h1 h2 hx hI;have HA:=qd hA;have HX:=qd hix;clear hA hix
     cases r1 with
     | false =>
       clear hbef;go_wp2_with (go_at_call 105;(with_reducible refine(hnm _).mono ?_);rintro e w1 ⟨rfl,rfl⟩);go_ret;exact⟨by have e:=HA.out;simp at e;rw[<-e];rfl,hBw⟩
     | true =>
       have hS:RH2 wr ⟨w.heap.size,0,none⟩ ⟨b,o+k,none⟩ (.slice (some ⟨b,o,none⟩) ts.length tc) (.string s) wr:=⟨k0,c0,Below.refl _ _⟩;obtain⟨q,hq⟩:∃q,decide (I<(k:Int))=q:=⟨_,rfl⟩
       have hq2:r2=q:=by
        cases r2 with
        | true=>rw[<-hq];exact(decide_eq_true (hbef.2 rfl)).symm
        | false=>rw[<-hq];exact(decide_eq_false (fun h=>by cases hbef.1 h)).symm
       subst hq2;clear hbef;go_upto_region 8 with(go_at_call 105;(with_reducible refine(hnm _).mono ?_);rintro e w1 ⟨rfl,rfl⟩);refine wp_region_held_drew (S:=(RH2 wr ⟨w.heap.size,0,none⟩ ⟨b,o+k,none⟩ (.slice (some ⟨b,o,none⟩) ts.length tc) (.string s))) (by kernel_rfl) (by exact RHL.drew hS) (fun hHeld=>?_);refine tk 0 ?_;refine tk 1 ?_;refine tk 2 ?_;refine tk 3 ?_;refine tk 4 ?_;refine tk 5 ?_;refine tk 6 ?_;(refine tk 8 ?_;try simp only[zs,Act.put]);refine tkR 7 fun K hK=>?_;go_simp;go_wp2_with (go_at_call 106;(with_reducible refine(HX.out _ (bcl hBw (RHL.bel hHeld))).mono ?_);rintro e w2 ⟨rfl,rfl⟩);refine hK.out _ _ (by exact hHeld) (fun hHeldN=>?_);clear hK K hHeld;have hHeld:=hHeldN;clear hHeldN;(try simp only[zs,Act.put]);(refine tk 9 ?_;try simp only[zs,Act.put]);refine wpAnyH_done (by kernel_rfl) ?_ _;(try simp only[zs,Act.put]);have hBx:=RHL.bel hHeld;(try rw[hq]);clear hHeld hS hq
       cases r2 with
       | true =>
         go_wp2;go_ret;exact⟨by have e:=HA.out;simp at e;rw[<-e];rfl,bcl hBw hBx⟩
       | false =>
         go_wp2;go_roundw;(case rel=>exact⟨k+1,rfl,by omega,bcl hBr hBx,qd (by simpa using HA.out)⟩);case measure=>simp[intOf];omega
    ·obtain rfl:k=ts.length:=(by omega);have hA:=HE.out;rw[List.drop_eq_nil_of_le ql]at hA;have HA:=qd hA;clear hA;go_wp2;go_ret;exact⟨by have e:=HA.out;simp[zA]at e;rw[<-e];rfl,hBw⟩
theorem grpA_doc(n:Nat)(g:GrpM):grpA n g=if zZ n g.one g.two≠0 then zZ n g.one g.two else if QH g.lo g.hi 0 6=false then 1 else if 3<=g.hi-g.lo then 1 else 0:=by
 unfold grpA QH;by_cases a:zZ n g.one g.two=0<;>by_cases b:g.lo<0<;>by_cases c:g.hi<g.lo<;>by_cases d:6<g.hi<;>by_cases e:3<=g.hi-g.lo<;>simp[a,b,c,d,e]<;>omega
theorem qbz(D:DayM)(w:World)(h:DayAt w D)(hs:DaySm D):Calls qp 77 #[dv D] w fun e w'=>e=.returned (.int .i64 (yz D))/\Below w.heap.size w w':=by
 have hgs:=h.gs;have hsm:=hs.gs;have htl:=hs.ts.1;obtain⟨R,hR⟩:∃R,yz D=R:=⟨_,rfl⟩;rw[hR];unfold yz at hR;unfold dv;clear h hs;obtain⟨ts,ta,tc,gs,ga,gc,os,oa,oc,hs,ha,hc,cs,ca,cc⟩:=D
 simp only at *
 generalize Value.slice oa os.length oc=x2;generalize Value.slice ha hs.length hc=x3;generalize Value.slice ca cs.length cc=x4;have hen:=fun one two=>Xe ta ts.length tc (by omega) (.slice ga gs.length gc) x2 x3 x4 one two
 generalize hN:ts.length=N at *
 clear hN;by_cases hlen:4<gs.length
 ·simp[hlen]at hR;subst hR;clear hgs;go_enter (sf 77 f77),ntmps77;go_wp2;go_ret;exact⟨rfl,by go_grown⟩
 ·simp[hlen]at hR;have HR:=qd hR;have HT:=qd hgs;clear hR hgs;go_enter (sf 77 f77),ntmps77;obtain⟨W,hW⟩:∃W,w.alloc (Obj.cells #[.slice ta N tc,.slice ga gs.length gc,x2,x3,x4] 28)=W:=⟨_,rfl⟩;have h5:B5 W w.heap.size (.slice ta N tc) (.slice ga gs.length gc) x2 x3 x4:=by subst hW;exact B5.new ..
  have hBW:Below w.heap.size w W:=by subst hW;go_grown
  have k1:=h5.c1;go_wp2;try rw[hW]
  clear hW k1;go_loopw [3] (fun i wr=>∃k:Nat,i=.int .i64 k/\k<=gs.length/\Below W.heap.size W wr/\Hid (zA (fun _ g=>grpA N g) k (gs.drop k)=R)) (fun i _=>gs.length-(intOf i).toNat);case atStart=>exact⟨0,rfl,by omega,Below.refl _ _,HR⟩
  case round =>
   obtain⟨k,rfl,hk,hBr,HE⟩:=hrel;obtain⟨k0,k1,k2,k3,k4⟩:=h5.keep hBr;have hBw:=bcl hBW hBr;have hz:=lt_of_cell k0;have hzW:=hBr.size;simp only at hz;by_cases hlt:k<gs.length
   ·obtain⟨b,o,rfl,hP⟩:=HT.out (by omega);obtain⟨g,hx⟩:∃x,gs[k]? = some x:=⟨gs[k],by simp[hlt]⟩;have hkc:(k:Int)<=(gc:Int):=(by omega);have c0:=qb _ hBw (hP k g hx 0 _ rfl);have c1:=qb _ hBw (hP k g hx 1 _ rfl);have c2:=qb _ hBw (hP k g hx 2 _ rfl);have c3:=qb _ hBw (hP k g hx 3 _ rfl);simp only[Nat.add_zero]at c0;have hA:=HE.out;rw[zT _ hx,grpA_doc]at hA;clear hP hx;obtain⟨one,two,lo,hi⟩:=g;have hen:=hen one two;have hins:=qcI lo hi 0 6;have hwr:QH lo hi 0 6=true->wrap64 (hi-lo)=hi-lo:=fun h=>by unfold QH at h;simp at h;unfold wrap64;omega
    simp only at *
    generalize QH lo hi 0 6=r1 at *
    generalize zZ N one two=E at *
    by_cases g1:E=0
    ·subst g1;simp only[ne_eq,not_true_eq_false,if_false]at hA
     cases r1 with
     | false =>
       have HA:=qd hA;clear hA hwr;(go_upto_region 10 with(go_at_call 107;(with_reducible refine(hen _).mono ?_);rintro e w1 ⟨rfl,hB1⟩;have hB2:=bcl (w:=w) (by go_grown) hB1;have hB3:=bcl (w:=W) (by go_grown) hB1;obtain⟨hc,hg⟩:=zY hB1;have hz1:=hB1.size;simp at hz1));go_wp2;(go_at_call 108;(with_reducible refine(hins _).mono ?_);rintro e w2 ⟨rfl,hB4⟩;have hB5:=bcl (w:=w) (by first|exact hB2|go_grown) hB4;have hB6:=bcl (w:=W) (by first|exact hB3|go_grown) hB4;obtain⟨hc2,hg2⟩:=zY hB4;have hz2:=hB4.size;have hz3:wr.heap.size<w1.heap.size:=(by omega));go_wp2;go_ret;exact⟨by have e:=HA.out;simp at e;rw[<-e];rfl,by first|exact hB5|go_grown⟩
     | true =>
       have hwr:=hwr rfl;by_cases h3:3<=hi-lo
       ·have HA:=qd hA;clear hA;(go_upto_region 10 with(go_at_call 107;(with_reducible refine(hen _).mono ?_);rintro e w1 ⟨rfl,hB1⟩;have hB2:=bcl (w:=w) (by go_grown) hB1;have hB3:=bcl (w:=W) (by go_grown) hB1;obtain⟨hc,hg⟩:=zY hB1;have hz1:=hB1.size;simp at hz1));go_wp2;(go_at_call 108;(with_reducible refine(hins _).mono ?_);rintro e w2 ⟨rfl,hB4⟩;have hB5:=bcl (w:=w) (by first|exact hB2|go_grown) hB4;have hB6:=bcl (w:=W) (by first|exact hB3|go_grown) hB4;obtain⟨hc2,hg2⟩:=zY hB4;have hz2:=hB4.size;have hz3:wr.heap.size<w1.heap.size:=(by omega));go_wp2;go_ret;exact⟨by have e:=HA.out;simp[h3]at e;rw[<-e];rfl,by first|exact hB5|go_grown⟩
       ·have HA:=qd hA;clear hA;(go_upto_region 10 with(go_at_call 107;(with_reducible refine(hen _).mono ?_);rintro e w1 ⟨rfl,hB1⟩;have hB2:=bcl (w:=w) (by go_grown) hB1;have hB3:=bcl (w:=W) (by go_grown) hB1;obtain⟨hc,hg⟩:=zY hB1;have hz1:=hB1.size;simp at hz1));go_wp2;(go_at_call 108;(with_reducible refine(hins _).mono ?_);rintro e w2 ⟨rfl,hB4⟩;have hB5:=bcl (w:=w) (by first|exact hB2|go_grown) hB4;have hB6:=bcl (w:=W) (by first|exact hB3|go_grown) hB4;obtain⟨hc2,hg2⟩:=zY hB4;have hz2:=hB4.size;have hz3:wr.heap.size<w1.heap.size:=(by omega));go_wp2;go_roundw;(case rel=>exact⟨k+1,rfl,by omega,(by first|exact hB6|go_grown),qd (by simpa[h3]using HA.out)⟩);case measure=>simp[intOf];omega
    ·have g2:(E != 0)=true:=(by simpa using g1);have HA:=qd hA;clear hA hwr;go_wp2_with (go_at_call 107;(with_reducible refine(hen _).mono ?_);rintro e w1 ⟨rfl,hB1⟩;have hB2:=bcl (w:=w) (by go_grown) hB1;have hB3:=bcl (w:=W) (by go_grown) hB1;obtain⟨hc,hg⟩:=zY hB1;have hz1:=hB1.size;simp at hz1);go_ret;exact⟨by have e:=HA.out;simp[g1]at e;rw[<-e];rfl,by first|exact hB2|go_grown⟩
   ·obtain rfl:k=gs.length:=(by omega);have hA:=HE.out;rw[List.drop_eq_nil_of_le ql]at hA;have HA:=qd hA;clear hA;go_wp2;go_ret;exact⟨by have e:=HA.out;simp[zA]at e;rw[<-e];rfl,hBw⟩
theorem qdD(D:DayM)(w:World)(h:DayAt w D)(hs:DaySm D):Calls qp 79 #[dv D] w fun e w'=>e=.returned (.int .i64 (jN D))/\Below w.heap.size w w':=by
 have hhs:=h.hs;have hsm:=hs.hs;have htl:=hs.gs.1;obtain⟨R,hR⟩:∃R,jN D=R:=⟨_,rfl⟩;rw[hR];unfold jN at hR;unfold dv;clear h hs;obtain⟨ts,ta,tc,gs,ga,gc,os,oa,oc,hs,ha,hc,cs,ca,cc⟩:=D
 simp only at *
 generalize Value.slice ta ts.length tc=x2;generalize Value.slice oa os.length oc=x3;generalize Value.slice ca cs.length cc=x4
 generalize hN:gs.length=N at *
 clear hN;by_cases hlen:3<hs.length
 ·simp[hlen]at hR;subst hR;clear hhs;go_enter (sf 79 f79),ntmps79;go_wp2;go_ret;exact⟨rfl,by go_grown⟩
 ·simp[hlen]at hR;have HR:=qd hR;have HT:=qd hhs;clear hR hhs;go_enter (sf 79 f79),ntmps79;obtain⟨W,hW⟩:∃W,w.alloc (Obj.cells #[x2,.slice ga N gc,x3,.slice ha hs.length hc,x4] 28)=W:=⟨_,rfl⟩;have h5:B5 W w.heap.size x2 (.slice ga N gc) x3 (.slice ha hs.length hc) x4:=by subst hW;exact B5.new ..
  have hBW:Below w.heap.size w W:=by subst hW;go_grown
  have k1:=h5.c3;go_wp2;try rw[hW]
  clear hW k1;go_loopw [3] (fun i wr=>∃k:Nat,i=.int .i64 k/\k<=hs.length/\Below W.heap.size W wr/\Hid (zA (fun _ h=>hldA N h) k (hs.drop k)=R)) (fun i _=>hs.length-(intOf i).toNat);case atStart=>exact⟨0,rfl,by omega,Below.refl _ _,HR⟩
  case round =>
   obtain⟨k,rfl,hk,hBr,HE⟩:=hrel;obtain⟨k0,k1,k2,k3,k4⟩:=h5.keep hBr;have hBw:=bcl hBW hBr;have hz:=lt_of_cell k0;have hzW:=hBr.size;simp only at hz;by_cases hlt:k<hs.length
   ·obtain⟨b,o,rfl,hP⟩:=HT.out (by omega);obtain⟨h,hx⟩:∃x,hs[k]? = some x:=⟨hs[k],by simp[hlt]⟩;have hkc:(k:Int)<=(hc:Int):=(by omega);have c0:=qb _ hBw (hP k h hx 0 _ rfl);have c1:=qb _ hBw (hP k h hx 1 _ rfl);have c2:=qb _ hBw (hP k h hx 2 _ rfl);have c3:=qb _ hBw (hP k h hx 3 _ rfl);simp only[Nat.add_zero]at c0;have hA:=HE.out;rw[zT _ hx]at hA;clear hP hx;obtain⟨hg,hm,hb,he⟩:=h;have hw1:=Zl hg N (by omega) (by omega);have hw2:=Yy hm 1 6;have hw3:=Zg hb;have hw4:=Zg he;rw[show hldA N ⟨hg,hm,hb,he⟩=(if btw hg 0 ((N:Int)-1)=false then(6:Int)else if(btw hm 1 6&&btw hb 0 99&&btw he 0 99)=false then 1 else if he<=hb then 7 else 0)from rfl]at hA
    simp only at *
    generalize btw hg 0 ((N:Int)-1)=r1 at *
    generalize btw hm 1 6=r2 at *
    generalize btw hb 0 99=r3 at *
    generalize btw he 0 99=r4 at *
    have HA:=qd hA;clear hA;cases r1
    ·go_wp2_with (first|(go_at_call 50;(with_reducible refine(hw1 _).mono ?_);rintro e w1 ⟨rfl,rfl⟩)|(go_at_call 21;(with_reducible refine(hw2 _).mono ?_);rintro e w1 ⟨rfl,rfl⟩)|(go_at_call 61;(with_reducible refine(hw3 _).mono ?_);rintro e w1 ⟨rfl,rfl⟩)|(go_at_call 61;(with_reducible refine(hw4 _).mono ?_);rintro e w1 ⟨rfl,rfl⟩));go_ret;exact⟨by have e:=HA.out;simp at e;rw[<-e];rfl,by go_grown⟩
    cases r2
    ·go_wp2_with (first|(go_at_call 50;(with_reducible refine(hw1 _).mono ?_);rintro e w1 ⟨rfl,rfl⟩)|(go_at_call 21;(with_reducible refine(hw2 _).mono ?_);rintro e w1 ⟨rfl,rfl⟩)|(go_at_call 61;(with_reducible refine(hw3 _).mono ?_);rintro e w1 ⟨rfl,rfl⟩)|(go_at_call 61;(with_reducible refine(hw4 _).mono ?_);rintro e w1 ⟨rfl,rfl⟩));go_ret;exact⟨by have e:=HA.out;simp at e;rw[<-e];rfl,by go_grown⟩
    cases r3
    ·go_wp2_with (first|(go_at_call 50;(with_reducible refine(hw1 _).mono ?_);rintro e w1 ⟨rfl,rfl⟩)|(go_at_call 21;(with_reducible refine(hw2 _).mono ?_);rintro e w1 ⟨rfl,rfl⟩)|(go_at_call 61;(with_reducible refine(hw3 _).mono ?_);rintro e w1 ⟨rfl,rfl⟩)|(go_at_call 61;(with_reducible refine(hw4 _).mono ?_);rintro e w1 ⟨rfl,rfl⟩));go_ret;exact⟨by have e:=HA.out;simp at e;rw[<-e];rfl,by go_grown⟩
    cases r4
    ·go_wp2_with (first|(go_at_call 50;(with_reducible refine(hw1 _).mono ?_);rintro e w1 ⟨rfl,rfl⟩)|(go_at_call 21;(with_reducible refine(hw2 _).mono ?_);rintro e w1 ⟨rfl,rfl⟩)|(go_at_call 61;(with_reducible refine(hw3 _).mono ?_);rintro e w1 ⟨rfl,rfl⟩)|(go_at_call 61;(with_reducible refine(hw4 _).mono ?_);rintro e w1 ⟨rfl,rfl⟩));go_ret;exact⟨by have e:=HA.out;simp at e;rw[<-e];rfl,by go_grown⟩
    by_cases hle:he<=hb
    ·go_wp2_with (first|(go_at_call 50;(with_reducible refine(hw1 _).mono ?_);rintro e w1 ⟨rfl,rfl⟩)|(go_at_call 21;(with_reducible refine(hw2 _).mono ?_);rintro e w1 ⟨rfl,rfl⟩)|(go_at_call 61;(with_reducible refine(hw3 _).mono ?_);rintro e w1 ⟨rfl,rfl⟩)|(go_at_call 61;(with_reducible refine(hw4 _).mono ?_);rintro e w1 ⟨rfl,rfl⟩));go_ret;exact⟨by have e:=HA.out;simp[hle]at e;rw[<-e];rfl,by go_grown⟩
    ·go_wp2_with (first|(go_at_call 50;(with_reducible refine(hw1 _).mono ?_);rintro e w1 ⟨rfl,rfl⟩)|(go_at_call 21;(with_reducible refine(hw2 _).mono ?_);rintro e w1 ⟨rfl,rfl⟩)|(go_at_call 61;(with_reducible refine(hw3 _).mono ?_);rintro e w1 ⟨rfl,rfl⟩)|(go_at_call 61;(with_reducible refine(hw4 _).mono ?_);rintro e w1 ⟨rfl,rfl⟩));go_roundw;(case rel=>exact⟨k+1,rfl,by omega,by go_grown,qd (by simpa[hle]using HA.out)⟩);case measure=>simp[intOf];omega
   ·obtain rfl:k=hs.length:=(by omega);have hA:=HE.out;rw[List.drop_eq_nil_of_le ql]at hA;have HA:=qd hA;clear hA;go_wp2;go_ret;exact⟨by have e:=HA.out;simp[zA]at e;rw[<-e];rfl,hBw⟩
end Go.Proofs.Tryz
namespace Go.Proofs.Tryz
open Go Go.Load Go.RowKit
structure PastM where
 a:Int
 b:Int
 c:Int
 d:Int
deriving DecidableEq
def Zx(p:PastM):List Value:=[.int .i64 p.a,.int .i64 p.b,.int .i64 p.c,.int .i64 p.d]
def Yi{α:Type}(p:α->Bool)(l:List α):Int:=match l.findIdx? p with
 | some k=>k
 | none=>-1
theorem Jp{α:Type}{p:α->Bool}{l:List α}{k:Nat}{x:α}(h:l[k]? = some x)(hn:(l.take k).any p=false)(hp:p x=true):Yi p l=k:=by
 unfold Yi
 have:l.findIdx? p=some k:=by
  rw[List.findIdx?_eq_some_iff_getElem];obtain⟨hk,rfl⟩:=qB h;refine⟨hk,hp,fun j hj=>?_⟩;rw[List.any_eq_false]at hn;have:=hn l[j] (List.mem_take_iff_getElem.2 ⟨j,by omega,rfl⟩);simpa using this
 rw[this]
theorem QW{α:Type}{p:α->Bool}{l:List α}(h:l.any p=false):Yi p l=-1:=by
 unfold Yi
 have:l.findIdx? p=none:=by
  rw[List.findIdx?_eq_none_iff];rw[List.any_eq_false]at h;intro x hx;simpa using h x hx
 rw[this]
theorem qbi{α:Type}(p:α->Bool)(l:List α):(0<=Yi p l)↔l.any p=true:=by
 unfold Yi
 cases h:l.findIdx? p with
 | none =>
   rw[List.findIdx?_eq_none_iff]at h;simp only[List.any_eq_true];constructor
   ·intro h;omega
   ·rintro⟨x,hx,hp⟩;rw[h x hx]at hp;cases hp
 | some k =>
   obtain⟨hk,hp,_⟩:=List.findIdx?_eq_some_iff_getElem.1 h;exact⟨fun _=>List.any_eq_true.2 ⟨_,List.getElem_mem hk,hp⟩,fun _=>Int.natCast_nonneg k⟩
theorem idxN_lt{α:Type}(p:α->Bool)(l:List α):Yi p l<l.length:=by
 unfold Yi
 cases h:l.findIdx? p with
 | none=>simp only;omega
 | some k =>
   obtain⟨hk,hp,_⟩:=List.findIdx?_eq_some_iff_getElem.1 h;simp only;omega
theorem indexOrd(fid:FuncId)(bound:Array Value)(hf:∀(args:Array Value) (w:World),(callFunc fid args).run qp w=.ok (.enter fid args) w)(p:OrdM->Bool)(l:List OrdM)(a:Option Addr)(c:Nat)(hlen:l.length<=1000)(I:World->Prop)(hI:∀W,I W->qi W 3 Yf a l)(w:World)(hw:I w)
 (hcall:∀(i:Nat) (x:OrdM),l[i]? = some x->∀W,I W->Calls qp fid (#[.agg #[.int .i64 x.fr,.int .i64 x.toT,.slice x.a x.ws.length x.c]]++bound) W fun e w'=>e=.returned (.bool (p x))/\I w') :
 Calls qp 125 #[.slice a l.length c,.func (.func fid) #[] bound] w fun e w'=>e=.returned (.int .i64 (Yi p l))/\I w':=by
 obtain⟨R,hR⟩:∃R,Yi p l=R:=⟨_,rfl⟩;rw[hR];have HR:=qd hR;clear hR;go_enter (sf 125 f125),ntmps125;go_wp2;go_loopw [8] (fun i wr=>∃k:Nat,i=.int .i64 k/\k<=l.length/\I wr/\Hid ((l.take k).any p=false)) (fun i _=>l.length-(intOf i).toNat);case atStart=>exact⟨0,rfl,Nat.zero_le _,hw,qd (by simp)⟩
 case round =>
  obtain⟨k,rfl,hk,hB,HN⟩:=hrel;by_cases hlt:k<l.length
  ·obtain⟨b,o,rfl,hP⟩:=hI wr hB (by omega);obtain⟨x,hx⟩:∃x,l[k]? = some x:=⟨l[k],by simp[hlt]⟩;have c0:=hP k x hx 0 _ rfl;have c1:=hP k x hx 1 _ rfl;have c2:=hP k x hx 2 _ rfl;simp only[Nat.add_zero]at c0;have hcall:=hcall k x hx wr hB;have HX:=qd hx;clear hP hx hI;obtain⟨r,hr⟩:∃r,p x=r:=⟨_,rfl⟩;rw[hr]at hcall;have HR2:=qd hr;clear hr;obtain⟨args,hargs⟩:∃args,(#[.agg #[.int .i64 x.fr,.int .i64 x.toT,.slice x.a x.ws.length x.c]]++bound)=args:=⟨_,rfl⟩;rw[hargs]at hcall
   cases r with
   | true =>
     go_wp2_with ((first|(rw[hargs])|skip);(with_reducible refine hcall.mono ?_);rintro e w1 ⟨rfl,hB1⟩);go_ret;exact⟨by rw[<-HR.out,Jp HX.out HN.out HR2.out];rfl,hB1⟩
   | false =>
     go_wp2_with ((first|(rw[hargs])|skip);(with_reducible refine hcall.mono ?_);rintro e w1 ⟨rfl,hB1⟩);go_roundw;(case rel=>exact⟨k+1,rfl,by omega,hB1,qd (by rw[any_take_succ p HX.out HN.out];exact HR2.out)⟩);case measure=>simp[intOf];omega
  ·obtain rfl:k=l.length:=(by omega);have hany:=HN.out;rw[List.take_length]at hany;have HA:=qd hany;clear hany;go_wp2;go_ret;exact⟨by rw[<-HR.out,QW HA.out];rfl,hB⟩
theorem indexInt(fid:FuncId)(bound:Array Value)(hf:∀(args:Array Value) (w:World),(callFunc fid args).run qp w=.ok (.enter fid args) w)(p:Int->Bool)(l:List Int)(a:Option Addr)(c:Nat)(hlen:l.length<=1000)(I:World->Prop)(hI:∀W,I W->qi W 1 encI a l)(w:World)(hw:I w)
 (hcall:∀(i:Nat) (x:Int),l[i]? = some x->∀W,I W->Calls qp fid (#[.int .i64 x]++bound) W fun e w'=>e=.returned (.bool (p x))/\I w') :
 Calls qp 127 #[.slice a l.length c,.func (.func fid) #[] bound] w fun e w'=>e=.returned (.int .i64 (Yi p l))/\I w':=by
 obtain⟨R,hR⟩:∃R,Yi p l=R:=⟨_,rfl⟩;rw[hR];have HR:=qd hR;clear hR;go_enter (sf 127 f127),ntmps127;go_wp2;go_loopw [8] (fun i wr=>∃k:Nat,i=.int .i64 k/\k<=l.length/\I wr/\Hid ((l.take k).any p=false)) (fun i _=>l.length-(intOf i).toNat);case atStart=>exact⟨0,rfl,Nat.zero_le _,hw,qd (by simp)⟩
 case round =>
  obtain⟨k,rfl,hk,hB,HN⟩:=hrel;by_cases hlt:k<l.length
  ·obtain⟨b,o,rfl,hP⟩:=hI wr hB (by omega);obtain⟨x,hx⟩:∃x,l[k]? = some x:=⟨l[k],by simp[hlt]⟩;have c0:=hP k x hx 0 _ rfl;simp only[Nat.mul_one,Nat.add_zero]at c0;have hcall:=hcall k x hx wr hB;have HX:=qd hx;clear hP hx hI;obtain⟨r,hr⟩:∃r,p x=r:=⟨_,rfl⟩;rw[hr]at hcall;have HR2:=qd hr;clear hr;obtain⟨args,hargs⟩:∃args,(#[.int .i64 x]++bound)=args:=⟨_,rfl⟩;rw[hargs]at hcall
   cases r with
   | true =>
     go_wp2_with ((first|(rw[hargs])|skip);(with_reducible refine hcall.mono ?_);rintro e w1 ⟨rfl,hB1⟩);go_ret;exact⟨by rw[<-HR.out,Jp HX.out HN.out HR2.out];rfl,hB1⟩
   | false =>
     go_wp2_with ((first|(rw[hargs])|skip);(with_reducible refine hcall.mono ?_);rintro e w1 ⟨rfl,hB1⟩);go_roundw;(case rel=>exact⟨k+1,rfl,by omega,hB1,qd (by rw[any_take_succ p HX.out HN.out];exact HR2.out)⟩);case measure=>simp[intOf];omega
  ·obtain rfl:k=l.length:=(by omega);have hany:=HN.out;rw[List.take_length]at hany;have HA:=qd hany;clear hany;go_wp2;go_ret;exact⟨by rw[<-HR.out,QW HA.out];rfl,hB⟩
theorem qbc(fid:FuncId)(bound:Array Value)(hf:∀(args:Array Value) (w:World),(callFunc fid args).run qp w=.ok (.enter fid args) w)(p:Int->Bool)(l:List Int)(a:Option Addr)(c:Nat)(hlen:l.length<=1000)(I:World->Prop)(hI:∀W,I W->qi W 1 encI a l)(w:World)(hw:I w)
 (hcall:∀(i:Nat) (x:Int),l[i]? = some x->∀W,I W->Calls qp fid (#[.int .i64 x]++bound) W fun e w'=>e=.returned (.bool (p x))/\I w') :
 Calls qp 100 #[.slice a l.length c,.func (.func fid) #[] bound] w fun e w'=>e=.returned (.bool (l.any p))/\I w':=by
 have hI:=indexInt fid bound hf p l a c hlen I hI w hw hcall;have hge:=qbi p l;clear hcall hw;obtain⟨r,hr⟩:∃r,l.any p=r:=⟨_,rfl⟩;rw[hr]at hge⊢
 generalize Yi p l=n at *
 cases r with
 | true =>
   have hn:0<=n:=hge.2 rfl;clear hge;go_enter (sf 100 f100),ntmps100;go_wp2_with (go_at_call 127;(with_reducible refine hI.mono ?_);rintro e w1 ⟨rfl,hB1⟩);go_ret;exact⟨by simp[hn],hB1⟩
 | false =>
   have hn:¬0<=n:=fun h=>(by have:=hge.1 h;cases this);clear hge;go_enter (sf 100 f100),ntmps100;go_wp2_with (go_at_call 127;(with_reducible refine hI.mono ?_);rintro e w1 ⟨rfl,hB1⟩);go_ret;exact⟨by simp[hn],hB1⟩
theorem indexWay(fid:FuncId)(bound:Array Value)(hf:∀(args:Array Value) (w:World),(callFunc fid args).run qp w=.ok (.enter fid args) w)(p:WayM->Bool)(l:List WayM)(a:Option Addr)(c:Nat)(hlen:l.length<=1000)(I:World->Prop)(hI:∀W,I W->qi W 1 xu a l)(w:World)(hw:I w)
 (hcall:∀(i:Nat) (x:WayM),l[i]? = some x->∀W,I W->Calls qp fid (#[.slice x.a x.l.length x.c]++bound) W fun e w'=>e=.returned (.bool (p x))/\I w') :
 Calls qp 182 #[.slice a l.length c,.func (.func fid) #[] bound] w fun e w'=>e=.returned (.int .i64 (Yi p l))/\I w':=by
 obtain⟨R,hR⟩:∃R,Yi p l=R:=⟨_,rfl⟩;rw[hR];have HR:=qd hR;clear hR;go_enter (sf 182 f182),ntmps182;go_wp2;go_loopw [8] (fun i wr=>∃k:Nat,i=.int .i64 k/\k<=l.length/\I wr/\Hid ((l.take k).any p=false)) (fun i _=>l.length-(intOf i).toNat);case atStart=>exact⟨0,rfl,Nat.zero_le _,hw,qd (by simp)⟩
 case round =>
  obtain⟨k,rfl,hk,hB,HN⟩:=hrel;by_cases hlt:k<l.length
  ·obtain⟨b,o,rfl,hP⟩:=hI wr hB (by omega);obtain⟨x,hx⟩:∃x,l[k]? = some x:=⟨l[k],by simp[hlt]⟩;have c0:=hP k x hx 0 _ rfl;simp only[Nat.mul_one,Nat.add_zero]at c0;have hcall:=hcall k x hx wr hB;have HX:=qd hx;clear hP hx hI;obtain⟨r,hr⟩:∃r,p x=r:=⟨_,rfl⟩;rw[hr]at hcall;have HR2:=qd hr;clear hr;obtain⟨args,hargs⟩:∃args,(#[.slice x.a x.l.length x.c]++bound)=args:=⟨_,rfl⟩;rw[hargs]at hcall
   cases r with
   | true =>
     go_wp2_with ((first|(rw[hargs])|skip);(with_reducible refine hcall.mono ?_);rintro e w1 ⟨rfl,hB1⟩);go_ret;exact⟨by rw[<-HR.out,Jp HX.out HN.out HR2.out];rfl,hB1⟩
   | false =>
     go_wp2_with ((first|(rw[hargs])|skip);(with_reducible refine hcall.mono ?_);rintro e w1 ⟨rfl,hB1⟩);go_roundw;(case rel=>exact⟨k+1,rfl,by omega,hB1,qd (by rw[any_take_succ p HX.out HN.out];exact HR2.out)⟩);case measure=>simp[intOf];omega
  ·obtain rfl:k=l.length:=(by omega);have hany:=HN.out;rw[List.take_length]at hany;have HA:=qd hany;clear hany;go_wp2;go_ret;exact⟨by rw[<-HR.out,QW HA.out];rfl,hB⟩
theorem qbd(fid:FuncId)(bound:Array Value)(hf:∀(args:Array Value) (w:World),(callFunc fid args).run qp w=.ok (.enter fid args) w)(p:WayM->Bool)(l:List WayM)(a:Option Addr)(c:Nat)(hlen:l.length<=1000)(I:World->Prop)(hI:∀W,I W->qi W 1 xu a l)(w:World)(hw:I w)
 (hcall:∀(i:Nat) (x:WayM),l[i]? = some x->∀W,I W->Calls qp fid (#[.slice x.a x.l.length x.c]++bound) W fun e w'=>e=.returned (.bool (p x))/\I w') :
 Calls qp 178 #[.slice a l.length c,.func (.func fid) #[] bound] w fun e w'=>e=.returned (.bool (l.any p))/\I w':=by
 have hI:=indexWay fid bound hf p l a c hlen I hI w hw hcall;have hge:=qbi p l;clear hcall hw;obtain⟨r,hr⟩:∃r,l.any p=r:=⟨_,rfl⟩;rw[hr]at hge⊢
 generalize Yi p l=n at *
 cases r with
 | true =>
   have hn:0<=n:=hge.2 rfl;clear hge;go_enter (sf 178 f178),ntmps178;go_wp2_with (go_at_call 182;(with_reducible refine hI.mono ?_);rintro e w1 ⟨rfl,hB1⟩);go_ret;exact⟨by simp[hn],hB1⟩
 | false =>
   have hn:¬0<=n:=fun h=>(by have:=hge.1 h;cases this);clear hge;go_enter (sf 178 f178),ntmps178;go_wp2_with (go_at_call 182;(with_reducible refine hI.mono ?_);rintro e w1 ⟨rfl,hB1⟩);go_ret;exact⟨by simp[hn],hB1⟩
theorem qeJ(fid:FuncId)(bound:Array Value)(hf:∀(args:Array Value) (w:World),(callFunc fid args).run qp w=.ok (.enter fid args) w)(p:PastM->Bool)(l:List PastM)(a:Option Addr)(c:Nat)(hlen:l.length<=1000)(I:World->Prop)(hI:∀W,I W->qi W 4 Zx a l)(w:World)(hw:I w)
 (hcall:∀(i:Nat) (x:PastM),l[i]? = some x->∀W,I W->Calls qp fid (#[.agg #[.int .i64 x.a,.int .i64 x.b,.int .i64 x.c,.int .i64 x.d]]++bound) W fun e w'=>e=.returned (.bool (p x))/\I w') :
 Calls qp 118 #[.slice a l.length c,.func (.func fid) #[] bound] w fun e w'=>e=.returned (.int .i64 (Yi p l))/\I w':=by
 obtain⟨R,hR⟩:∃R,Yi p l=R:=⟨_,rfl⟩;rw[hR];have HR:=qd hR;clear hR;go_enter (sf 118 f118),ntmps118;go_wp2;go_loopw [8] (fun i wr=>∃k:Nat,i=.int .i64 k/\k<=l.length/\I wr/\Hid ((l.take k).any p=false)) (fun i _=>l.length-(intOf i).toNat);case atStart=>exact⟨0,rfl,Nat.zero_le _,hw,qd (by simp)⟩
 case round =>
  obtain⟨k,rfl,hk,hB,HN⟩:=hrel;by_cases hlt:k<l.length
  ·obtain⟨b,o,rfl,hP⟩:=hI wr hB (by omega);obtain⟨x,hx⟩:∃x,l[k]? = some x:=⟨l[k],by simp[hlt]⟩;have c0:=hP k x hx 0 _ rfl;have c1:=hP k x hx 1 _ rfl;have c2:=hP k x hx 2 _ rfl;have c3:=hP k x hx 3 _ rfl;simp only[Nat.add_zero]at c0;have hcall:=hcall k x hx wr hB;have HX:=qd hx;clear hP hx hI;obtain⟨r,hr⟩:∃r,p x=r:=⟨_,rfl⟩;rw[hr]at hcall;have HR2:=qd hr;clear hr;obtain⟨args,hargs⟩:∃args,(#[.agg #[.int .i64 x.a,.int .i64 x.b,.int .i64 x.c,.int .i64 x.d]]++bound)=args:=⟨_,rfl⟩;rw[hargs]at hcall
   cases r with
   | true =>
     go_wp2_with ((first|(rw[hargs])|skip);(with_reducible refine hcall.mono ?_);rintro e w1 ⟨rfl,hB1⟩);go_ret;exact⟨by rw[<-HR.out,Jp HX.out HN.out HR2.out];rfl,hB1⟩
   | false =>
     go_wp2_with ((first|(rw[hargs])|skip);(with_reducible refine hcall.mono ?_);rintro e w1 ⟨rfl,hB1⟩);go_roundw;(case rel=>exact⟨k+1,rfl,by omega,hB1,qd (by rw[any_take_succ p HX.out HN.out];exact HR2.out)⟩);case measure=>simp[intOf];omega
  ·obtain rfl:k=l.length:=(by omega);have hany:=HN.out;rw[List.take_length]at hany;have HA:=qd hany;clear hany;go_wp2;go_ret;exact⟨by rw[<-HR.out,QW HA.out];rfl,hB⟩
theorem ZV(fid:FuncId)(bound:Array Value)(hf:∀(args:Array Value) (w:World),(callFunc fid args).run qp w=.ok (.enter fid args) w)(p:PastM->Bool)(l:List PastM)(a:Option Addr)(c:Nat)(hlen:l.length<=1000)(I:World->Prop)(hI:∀W,I W->qi W 4 Zx a l)(w:World)(hw:I w)
 (hcall:∀(i:Nat) (x:PastM),l[i]? = some x->∀W,I W->Calls qp fid (#[.agg #[.int .i64 x.a,.int .i64 x.b,.int .i64 x.c,.int .i64 x.d]]++bound) W fun e w'=>e=.returned (.bool (p x))/\I w') :
 Calls qp 90 #[.slice a l.length c,.func (.func fid) #[] bound] w fun e w'=>e=.returned (.bool (l.any p))/\I w':=by
 have hI:=qeJ fid bound hf p l a c hlen I hI w hw hcall;have hge:=qbi p l;clear hcall hw;obtain⟨r,hr⟩:∃r,l.any p=r:=⟨_,rfl⟩;rw[hr]at hge⊢
 generalize Yi p l=n at *
 cases r with
 | true =>
   have hn:0<=n:=hge.2 rfl;clear hge;go_enter (sf 90 f90),ntmps90;go_wp2_with (go_at_call 118;(with_reducible refine hI.mono ?_);rintro e w1 ⟨rfl,hB1⟩);go_ret;exact⟨by simp[hn],hB1⟩
 | false =>
   have hn:¬0<=n:=fun h=>(by have:=hge.1 h;cases this);clear hge;go_enter (sf 90 f90),ntmps90;go_wp2_with (go_at_call 118;(with_reducible refine hI.mono ?_);rintro e w1 ⟨rfl,hB1⟩);go_ret;exact⟨by simp[hn],hB1⟩
end Go.Proofs.Tryz
