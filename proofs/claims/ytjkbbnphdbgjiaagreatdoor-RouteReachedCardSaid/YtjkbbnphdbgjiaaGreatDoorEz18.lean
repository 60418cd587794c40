/-
  Lemmas about the program and the machine (Q50 to Q50), upon which the last text of this claim rests; no condition.
-/
import Derived.Test.YtjkbbnphdbgjiaaGreatDoorEz17
set_option linter.unusedSimpArgs false
set_option linter.unusedVariables false
set_option maxRecDepth 100000
set_option maxHeartbeats 4000000
namespace Go.Proofs.Tryz
open Go Go.Load Go.LoadR Go.RowKit
def qfL(D:DayM)(c:Nat)(s:Int):DayM:={ D with cs:=D.cs.set c ⟨(D.cs[c]?.getD ⟨0,0,0,0,0⟩).fr,(D.cs[c]?.getD ⟨0,0,0,0,0⟩).toT,(D.cs[c]?.getD ⟨0,0,0,0,0⟩).co,(D.cs[c]?.getD ⟨0,0,0,0,0⟩).cl,s⟩ }
def SeeP(D:DayM)(c:Nat)(s:Int)(w:World)(e:Ending)(w':World):Prop :=
 Below w.heap.size w w'/\∃D',SameD D' (qfL D c s)/\DaySm D'/\DayAt w' D'/\((zt D' 0≠0/\e=.returned (.tuple #[d0v,.int .i64 (zt D' 0)]))\/(zt D' 0=0/\e=.returned (.tuple #[dv D',.int .i64 0])))
theorem yo.setj{α:Type}{B k:Nat}{w:World}{enc:α->List Value}{g:Nat}{l:List α}{i j:Nat}{x y:α}{v:Value}(he:∀z,(enc z).length=k)(h:yo B w k enc (some ⟨g,0,none⟩) l)(hx:l[i]? = some x)(hj:enc y=(enc x).set j v)(hjk:j<k):yo B (w.setCell ⟨g,i*k+j,none⟩ v) k enc (some ⟨g,0,none⟩) (l.set i y) :=
 ⟨h.1,fun hl=>⟨g,rfl,fun i' y' hy j' u hu=>by
   have hi:=(qB hx).1;obtain⟨g',e,hc⟩:=h.2 (by omega);cases e;have hj':j'<k:=(by have:=(qB hu).1;rwa[he]at this);have hdiv:∀a b:Nat,b<k->(a*k+b)/k=a:=fun a b hb=>(by rw[Nat.mul_comm,Nat.mul_add_div (by omega),Nat.div_eq_of_lt hb,Nat.add_zero]);by_cases e:i'=i
   ·subst e;rw[List.getElem?_set_self hi]at hy;obtain rfl:=qz hy;rw[hj]at hu;by_cases e2:j'=j
    ·subst e2;rw[List.getElem?_set_self (by rw[he];exact hjk)]at hu;obtain rfl:=qz hu;have h0:=hc i' x hx j' ((enc x)[j']'(by rw[he];exact hjk)) (qM _);exact⟨qA (qL h0.1),by simpa using h0.2⟩
    ·rw[List.getElem?_set_ne (Ne.symm e2)]at hu;have h0:=hc i' x hx j' u hu;exact⟨qj h0.1 (.inr (by simp only;omega)),by simpa using h0.2⟩
   ·rw[List.getElem?_set_ne (Ne.symm e)]at hy;have h9:=hc i' y' hy j' u hu;refine⟨qj h9.1 (.inr (fun h8=>e ?_)),by simpa using h9.2⟩;have h7:=hdiv i' j' hj';have h6:i'*k+j'=i*k+j:=h8;rw[h6,hdiv i j hjk]at h7
    exact h7.symm⟩⟩
theorem see_ok(D:DayM)(w:World)(h:DayAt w D)(hs:DaySm D)(hG:Globs w)(hz:checkN D=0)(c:Nat)(s:Int)(x:CalM)(hx:D.cs[c]? = some x)(hm1:-1<=s)(hw:s<(qK D x).ws.length)(hu:x.se=-2) :
 Calls qp 39 #[dv D,.int .i64 c,.int .i64 s] w (SeeP D c s w):=by
 have hc:=(qB hx).1;obtain⟨fr,tw,co,cl,se⟩:=x;simp only at hu;subst hu;have hwo:=fun W (hB:Below w.heap.size w W) (M:Nat)=>Qs D (some M) ⟨fr,tw,co,cl,-2⟩ W (h.keep hB) hs;have hwv:ZO D ⟨fr,tw,co,cl,-2⟩=.slice (qK D ⟨fr,tw,co,cl,-2⟩).a (qK D ⟨fr,tw,co,cl,-2⟩).ws.length (qK D ⟨fr,tw,co,cl,-2⟩).c:=rfl;have hcv:cvC ⟨fr,tw,co,cl,-2⟩=.agg #[.int .i64 fr,.int .i64 tw,.int .i64 co,.int .i64 cl,.int .i64 (-2)]:=rfl;rw[hwv,hcv]at hwo;have HWO:=qd hwo;clear hwv hcv hwo
 generalize(qK D ⟨fr,tw,co,cl,-2⟩).ws.length=wn at *
 generalize(qK D ⟨fr,tw,co,cl,-2⟩).a=wa at *
 generalize(qK D ⟨fr,tw,co,cl,-2⟩).c=wc at *
 obtain⟨W,hW⟩:∃W,(w.alloc (Obj.cells #[.slice D.ta D.ts.length D.tc,.slice D.ga D.gs.length D.gc,.slice D.oa D.os.length D.oc,.slice D.ha D.hs.length D.hc,.slice D.ca D.cs.length D.cc] 28)).alloc (Obj.cells #[.slice none 0 0,.slice none 0 0,.slice none 0 0,.slice none 0 0,.slice none 0 0] 28)=W:=⟨_,rfl⟩;have hBW:Below w.heap.size w W:=by subst hW;go_grown
 have hsW:W.heap.size=w.heap.size+2:=by subst hW;simp
 have k0:W.cell? ⟨w.heap.size,0,none⟩=some (.slice D.ta D.ts.length D.tc):=by subst hW;go_cell
 have k1:W.cell? ⟨w.heap.size,1,none⟩=some (.slice D.ga D.gs.length D.gc):=by subst hW;go_cell
 have k2:W.cell? ⟨w.heap.size,2,none⟩=some (.slice D.oa D.os.length D.oc):=by subst hW;go_cell
 have k3:W.cell? ⟨w.heap.size,3,none⟩=some (.slice D.ha D.hs.length D.hc):=by subst hW;go_cell
 have k4:W.cell? ⟨w.heap.size,4,none⟩=some (.slice D.ca D.cs.length D.cc):=by subst hW;go_cell
 have b0:W.cell? ⟨w.heap.size+1,0,none⟩=some (.slice none 0 0):=by subst hW;go_cell
 have b1:W.cell? ⟨w.heap.size+1,1,none⟩=some (.slice none 0 0):=by subst hW;go_cell
 have b2:W.cell? ⟨w.heap.size+1,2,none⟩=some (.slice none 0 0):=by subst hW;go_cell
 have b3:W.cell? ⟨w.heap.size+1,3,none⟩=some (.slice none 0 0):=by subst hW;go_cell
 have b4:W.cell? ⟨w.heap.size+1,4,none⟩=some (.slice none 0 0):=by subst hW;go_cell
 have g0:W.frozen? ⟨w.heap.size+1,0,none⟩=false:=by subst hW;go_cell
 have g1:W.frozen? ⟨w.heap.size+1,1,none⟩=false:=by subst hW;go_cell
 have g2:W.frozen? ⟨w.heap.size+1,2,none⟩=false:=by subst hW;go_cell
 have g3:W.frozen? ⟨w.heap.size+1,3,none⟩=false:=by subst hW;go_cell
 have g4:W.frozen? ⟨w.heap.size+1,4,none⟩=false:=by subst hW;go_cell
 have hop:=Jw D W (h.keep hBW) hs (hG.keep hBW) hz;have hidx:=fun X=>jO c D.cs.length X (by omega) (by have:=hs.cs.1;omega);rw[show za (c:Int) D.cs.length=0 by unfold za;rw[if_pos (zS.2 ⟨by omega,by omega⟩)]]at hidx;have HD:=qd (qg h (qg hs hG));have HB:=qd (qg hBW hsW);have hdv:dv D=.agg #[.slice D.ta D.ts.length D.tc,.slice D.ga D.gs.length D.gc,.slice D.oa D.os.length D.oc,.slice D.ha D.hs.length D.hc,.slice D.ca D.cs.length D.cc]:=rfl;rw[hdv]at hop⊢;obtain⟨bc,oc,ea,hcx⟩:=h.cs (by omega);have HCX:=qd hcx;have HEA:=qd ea;clear ea;have HX:=qd hx;have HI:=qd hidx;have hsm:=hs.cs.2;clear h hs hG hdv hz hcx hx hidx;go_enter (sf 39 f39),ntmps39;go_upto_region 1 with fail;try rw[hW]
 unfold dm at hop;go_upto_region 2 with(go_at_call 73;(with_reducible refine hop.mono ?_);rintro e w1 ⟨M,rfl,hM,hGM,hB1⟩;have hs1:=hB1.size);obtain⟨V,hV⟩:∃V,w1.alloc (Obj.cells #[.slice D.ta D.ts.length D.tc,.slice D.ga D.gs.length D.gc,.slice D.oa D.os.length D.oc,.slice D.ha D.hs.length D.hc,.slice D.ca D.cs.length D.cc,.map (some M)] 73)=V:=⟨_,rfl⟩;have hBV:Below W.heap.size W V:=Below.call hB1 (by subst hV;go_grown) (by omega);have hBV1:Below w1.heap.size w1 V:=by subst hV;go_grown
 have q0:V.cell? ⟨w1.heap.size,0,none⟩=some (.slice D.ta D.ts.length D.tc):=by subst hV;go_cell
 have q1:V.cell? ⟨w1.heap.size,1,none⟩=some (.slice D.ga D.gs.length D.gc):=by subst hV;go_cell
 have q2:V.cell? ⟨w1.heap.size,2,none⟩=some (.slice D.oa D.os.length D.oc):=by subst hV;go_cell
 have q3:V.cell? ⟨w1.heap.size,3,none⟩=some (.slice D.ha D.hs.length D.hc):=by subst hV;go_cell
 have q4:V.cell? ⟨w1.heap.size,4,none⟩=some (.slice D.ca D.cs.length D.cc):=by subst hV;go_cell
 have q5:V.cell? ⟨w1.heap.size,5,none⟩=some (.map (some M)):=by subst hV;go_cell
 try rw[hV]
 have k0:=qb _ hBV k0;have k1:=qb _ hBV k1;have k2:=qb _ hBV k2;have k3:=qb _ hBV k3;have k4:=qb _ hBV k4;have g0:=qf _ hBV b0 g0;have b0:=qb _ hBV b0;have g1:=qf _ hBV b1 g1;have b1:=qb _ hBV b1;have g2:=qf _ hBV b2 g2;have b2:=qb _ hBV b2;have g3:=qf _ hBV b3 g3;have b3:=qb _ hBV b3;have g4:=qf _ hBV b4 g4;have b4:=qb _ hBV b4;clear hV hop hB1 hBV1 hGM;clear hW;go_upto_region 7 with(go_at_call 44;(with_reducible refine(HI.out _).mono ?_);rintro e w2 ⟨rfl,rfl⟩);have hBwV:=Below.call HB.out.1 hBV (by omega);have hci0:(0:Int)<=(c:Int):=Int.natCast_nonneg c;have hci1:(c:Int)<(D.cs.length:Int):=by omega
 have hcic:(c:Int)<=(D.cc:Int):=by omega
 have r0:=qb _ hBwV (HCX.out c _ HX.out 0 _ rfl);have r1:=qb _ hBwV (HCX.out c _ HX.out 1 _ rfl);have r2:=qb _ hBwV (HCX.out c _ HX.out 2 _ rfl);have r3:=qb _ hBwV (HCX.out c _ HX.out 3 _ rfl);have r4:=qb _ hBwV (HCX.out c _ HX.out 4 _ rfl);simp only[Nat.add_zero]at r0;have hA1:¬s < -1:=by omega
 have hA2:¬(wn:Int)<=s:=by omega
 have HBV:=qd (qg hBwV hBV);rw[HEA.out]at q4 k4⊢;clear hBV;go_upto_region 10 with fail;obtain⟨U,hU⟩:∃U,V.alloc (Obj.cells #[.int .i64 fr,.int .i64 tw,.int .i64 co,.int .i64 cl,.int .i64 (-2)] 99)=U:=⟨_,rfl⟩;have hBU:Below V.heap.size V U:=by subst hU;go_grown
 have u0:U.cell? ⟨V.heap.size,0,none⟩=some (.int .i64 fr):=by subst hU;go_cell
 have u1:U.cell? ⟨V.heap.size,1,none⟩=some (.int .i64 tw):=by subst hU;go_cell
 have u2:U.cell? ⟨V.heap.size,2,none⟩=some (.int .i64 co):=by subst hU;go_cell
 have u3:U.cell? ⟨V.heap.size,3,none⟩=some (.int .i64 cl):=by subst hU;go_cell
 have u4:U.cell? ⟨V.heap.size,4,none⟩=some (.int .i64 (-2)):=by subst hU;go_cell
 try rw[hU]
 have k0:=qb _ hBU k0;have k1:=qb _ hBU k1;have k2:=qb _ hBU k2;have k3:=qb _ hBU k3;have k4:=qb _ hBU k4;have g0:=qf _ hBU b0 g0;have b0:=qb _ hBU b0;have g1:=qf _ hBU b1 g1;have b1:=qb _ hBU b1;have g2:=qf _ hBU b2 g2;have b2:=qb _ hBU b2;have g3:=qf _ hBU b3 g3;have b3:=qb _ hBU b3;have g4:=qf _ hBU b4 g4;have b4:=qb _ hBU b4;have q0:=qb _ hBU q0;have q1:=qb _ hBU q1;have q2:=qb _ hBU q2;have q3:=qb _ hBU q3;have q4:=qb _ hBU q4;have q5:=qb _ hBU q5;have hzU:=hBU.size;have HBU:=qd (bcl HBV.out.1 hBU);clear hU hBU r0 r1 r2 r3 r4;have hwo2:=fun W hB=>HWO.out W hB M;unfold dm at hwo2;simp only[HEA.out]at hwo2;have HW2:=qd hwo2;clear hwo2;go_upto_region 14 with(go_at_call 59;(with_reducible refine(HW2.out _ HBU.out).mono ?_);rintro e w3 ⟨rfl,hB3⟩;have hz3:V.heap.size<w3.heap.size:=(by have h9:=hB3.size;have h8:=lt_of_cell u0;simp only at h8;omega);have u4:=qb _ hB3 u4);have k0:=qb _ hB3 k0;have k1:=qb _ hB3 k1;have k2:=qb _ hB3 k2;have k3:=qb _ hB3 k3;have k4:=qb _ hB3 k4;have g0:=qf _ hB3 b0 g0;have b0:=qb _ hB3 b0;have g1:=qf _ hB3 b1 g1;have b1:=qb _ hB3 b1;have g2:=qf _ hB3 b2 g2;have b2:=qb _ hB3 b2;have g3:=qf _ hB3 b3 g3;have b3:=qb _ hB3 b3;have g4:=qf _ hB3 b4 g4;have b4:=qb _ hB3 b4;have hw2:w.heap.size+2<=w3.heap.size:=by have h9:=lt_of_cell b0;simp only at h9;omega
 have hBw3:=bcl HBU.out hB3;have hcop:=qcR D w3 (HD.out.1.keep hBw3) HD.out.2.1;rw[show dv D=.agg #[.slice D.ta D.ts.length D.tc,.slice D.ga D.gs.length D.gc,.slice D.oa D.os.length D.oc,.slice D.ha D.hs.length D.hc,.slice (some ⟨bc,oc,none⟩) D.cs.length D.cc] by unfold dv;rw[HEA.out]]at hcop;have HB3:=qd hBw3;clear hBw3 hB3 u0 u1 u2 u3 u4 q0 q1 q2 q3 q4 q5;go_upto_region 15 with(go_at_call 86;(with_reducible refine hcop.mono ?_);intro e X hP;obtain⟨D',he,hBX,hSD,hSm,hOwn,hHold⟩:=hP;obtain⟨g,eca,hrw⟩:=hOwn.2 (by rw[hSD.cs];omega);have hdv':dv D'=.agg #[.slice D'.ta D'.ts.length D'.tc,.slice D'.ga D'.gs.length D'.gc,.slice D'.oa D'.os.length D'.oc,.slice D'.ha D'.hs.length D'.hc,.slice (some ⟨g,0,none⟩) D'.cs.length D'.cc]:=(by unfold dv;rw[eca]);rw[hdv']at he;subst he;have HECA:=qd (qg eca (qg hdv' (qg hSD (qg hSm (qg hOwn hHold)))));clear eca hdv' hSD hSm hOwn hHold);have hlenD:D'.cs.length=D.cs.length:=by rw[HECA.out.2.2.1.cs]
 have hx':D'.cs[c]? = some ⟨fr,tw,co,cl,-2⟩:=by rw[HECA.out.2.2.1.cs];exact HX.out
 have hgw:w3.heap.size<=g:=HECA.out.2.2.2.2.1.1 _ HECA.out.1;have hci2:(c:Int)<(D'.cs.length:Int):=by omega
 have hci3:(c:Int)<=(D'.cc:Int):=by have:=HECA.out.2.2.2.1.cs.2;omega
 clear hlenD;have hgX:g<X.heap.size:=lt_of_cell (hrw c _ hx' 0 _ rfl).1;obtain⟨Y,hY⟩:∃Y,X.alloc (Obj.cells #[.slice D'.ta D'.ts.length D'.tc,.slice D'.ga D'.gs.length D'.gc,.slice D'.oa D'.os.length D'.oc,.slice D'.ha D'.hs.length D'.hc,.slice (some ⟨g,0,none⟩) D'.cs.length D'.cc] 28)=Y:=⟨_,rfl⟩;have hBY:Below X.heap.size X Y:=by subst hY;go_grown
 have hBwX:=bcl HB3.out hBX;have hBXY:=bcl hBX hBY;have y0:Y.cell? ⟨X.heap.size,0,none⟩=some (.slice D'.ta D'.ts.length D'.tc):=by subst hY;go_cell
 have y1:Y.cell? ⟨X.heap.size,1,none⟩=some (.slice D'.ga D'.gs.length D'.gc):=by subst hY;go_cell
 have y2:Y.cell? ⟨X.heap.size,2,none⟩=some (.slice D'.oa D'.os.length D'.oc):=by subst hY;go_cell
 have y3:Y.cell? ⟨X.heap.size,3,none⟩=some (.slice D'.ha D'.hs.length D'.hc):=by subst hY;go_cell
 have y4:Y.cell? ⟨X.heap.size,4,none⟩=some (.slice (some ⟨g,0,none⟩) D'.cs.length D'.cc):=by subst hY;go_cell
 have g0:=qf _ hBXY b0 g0;have b0:=qb _ hBXY b0;have g1:=qf _ hBXY b1 g1;have b1:=qb _ hBXY b1;have g2:=qf _ hBXY b2 g2;have b2:=qb _ hBXY b2;have g3:=qf _ hBXY b3 g3;have b3:=qb _ hBXY b3;have g4:=qf _ hBXY b4 g4;have b4:=qb _ hBXY b4;have s4:=qb _ hBY (hrw c _ hx' 4 _ rfl).1;have f4:=qf _ hBY (hrw c _ hx' 4 _ rfl).1 (hrw c _ hx' 4 _ rfl).2;have hBwY:=bcl hBwX hBY;have HP:=qd (qg hBY (qg hBwY hx'));try rw[hY]
 clear hY hBY hBX hBwX hBwY hBXY hrw hcop k0 k1 k2 k3 k4 hx';go_upto_region 16 with fail;obtain⟨Z,hZ⟩:∃Z,Y.setCell ⟨g,c*5+4,none⟩ (.int .i64 s)=Z:=⟨_,rfl⟩;have hmZ:Mod (fun j=>j=g) Y Z:=by subst hZ;exact(Mod.refl (fun j=>j=g) Y).put ⟨g,c*5+4,none⟩ _ rfl
 have hO:yo w3.heap.size X 5 YQ (some ⟨g,0,none⟩) D'.cs:=by rw[<-HECA.out.1];exact HECA.out.2.2.2.2.1
 have hrZ:qi Z 5 YQ D'.ca (D'.cs.set c ⟨fr,tw,co,cl,s⟩):=by
  rw[HECA.out.1,<-hZ];exact(yo.setj (k:=5) (enc:=YQ) (fun _=>rfl) (hO.keep HP.out.1) HP.out.2.2 (show YQ ⟨fr,tw,co,cl,s⟩=(YQ ⟨fr,tw,co,cl,-2⟩).set 4 (.int .i64 s)from rfl) (by decide)).rows
 have hSm2:DaySm ({ D' with cs:=D'.cs.set c ⟨fr,tw,co,cl,s⟩ }:DayM):=by
  have h:=HECA.out.2.2.2.1;exact⟨h.ts,h.nm,h.gs,h.os,h.ws,h.ls,h.hs,by rw[List.length_set];exact h.cs⟩
 have hSD2:SameD ({ D' with cs:=D'.cs.set c ⟨fr,tw,co,cl,s⟩ }:DayM) (qfL D c s):=by
  have h:=HECA.out.2.2.1;refine⟨h.ts,h.gs,h.os,h.hs,?_⟩;show D'.cs.set c _=D.cs.set c _;rw[h.cs,HX.out];rfl
 have hmXZ:Mod (fun j=>j<w3.heap.size\/(1<=D.cs.length/\∃p,D'.ca=some p/\p.block=j)) X Z:=(Mod.below HP.out.1).trans (hmZ.mono fun b e=>.inr ⟨by omega,_,HECA.out.1,e.symm⟩);have hdZ:=HECA.out.2.2.2.2.2 Z _ hmXZ hrZ;have hBwZ:Below w.heap.size w Z:=HP.out.2.1.trans (hmZ.keep HP.out.2.1.size (fun j e=>by omega));have hag:=qcL _ Z hdZ hSm2 (HD.out.2.2.keep hBwZ);have hdv2:dv ({ D' with cs:=D'.cs.set c ⟨fr,tw,co,cl,s⟩ }:DayM)=.agg #[.slice D'.ta D'.ts.length D'.tc,.slice D'.ga D'.gs.length D'.gc,.slice D'.oa D'.os.length D'.oc,.slice D'.ha D'.hs.length D'.hc,.slice (some ⟨g,0,none⟩) D'.cs.length D'.cc]:=by unfold dv;simp only[List.length_set,HECA.out.1]
 have y0:=hmZ.cell y0 (by simp only;omega);have y1:=hmZ.cell y1 (by simp only;omega);have y2:=hmZ.cell y2 (by simp only;omega);have y3:=hmZ.cell y3 (by simp only;omega);have y4:=hmZ.cell y4 (by simp only;omega);have g0:=(hmZ.frozen b0 (by simp only;omega)).trans g0;have b0:=hmZ.cell b0 (by simp only;omega);have g1:=(hmZ.frozen b1 (by simp only;omega)).trans g1;have b1:=hmZ.cell b1 (by simp only;omega);have g2:=(hmZ.frozen b2 (by simp only;omega)).trans g2;have b2:=hmZ.cell b2 (by simp only;omega);have g3:=(hmZ.frozen b3 (by simp only;omega)).trans g3;have b3:=hmZ.cell b3 (by simp only;omega);have g4:=(hmZ.frozen b4 (by simp only;omega)).trans g4;have b4:=hmZ.cell b4 (by simp only;omega);have HZ:=qd (qg hSm2 (qg hSD2 (qg hmXZ (qg hrZ hBwZ))));have HAG:=qd hag;rw[hZ];clear hZ hmZ hO hrZ hSm2 hSD2 hmXZ hdZ hBwZ hag s4 f4
 generalize hD2:({ D' with cs:=D'.cs.set c ⟨fr,tw,co,cl,s⟩ }:DayM)=D2 at *
 have HD2:=qd hD2;clear hD2;have HV:=qd hdv2;clear hdv2;by_cases hask:zt D2 0=0
 ·have HA:=qd hask;clear hask
  have hag2:Calls qp 87 #[.agg #[.slice D'.ta D'.ts.length D'.tc,.slice D'.ga D'.gs.length D'.gc,.slice D'.oa D'.os.length D'.oc,.slice D'.ha D'.hs.length D'.hc,.slice (some ⟨g,0,none⟩) D'.cs.length D'.cc]] Z fun e w'=>e=.returned (.tuple #[.agg #[.slice D'.ta D'.ts.length D'.tc,.slice D'.ga D'.gs.length D'.gc,.slice D'.oa D'.os.length D'.oc,.slice D'.ha D'.hs.length D'.hc,.slice (some ⟨g,0,none⟩) D'.cs.length D'.cc],.int .i64 0])/\Below Z.heap.size Z w':=by
   rw[<-HV.out];refine HAG.out.mono fun e w' h=>⟨?_,h.1⟩;rcases h.2 with h2|h2
   ·exact absurd HA.out h2.1
   ·rw[h2.2,HV.out]
  go_wp2_with (go_at_call 87;(with_reducible refine hag2.mono ?_);rintro e w5 ⟨rfl,hB5⟩;have c0:=qb _ hB5 b0;have f0:=qf _ hB5 b0 g0;have c1:=qb _ hB5 b1;have f1:=qf _ hB5 b1 g1;have c2:=qb _ hB5 b2;have f2:=qf _ hB5 b2 g2;have c3:=qb _ hB5 b3;have f3:=qf _ hB5 b3 g3;have c4:=qb _ hB5 b4;have f4:=qf _ hB5 b4 g4);refine LoadR.ret_ct5 results39 jZ jf rfl rfl c0 c1 c2 c3 c4 ?_;refine⟨LoadR.Below.set5 (bcl HZ.out.2.2.2.2 hB5) (by omega),D2,HZ.out.2.1,HZ.out.1,?_,.inr ⟨HA.out,by rw[HV.out];rfl⟩⟩;rw[<-HD2.out];refine HECA.out.2.2.2.2.2 _ _ ((HZ.out.2.2.1.trans (Mod.below hB5)).trans (((((Mod.refl _ w5).put ⟨w.heap.size+1,0,none⟩ _ (.inl (by simp only;omega))).put ⟨w.heap.size+1,1,none⟩ _ (.inl (by simp only;omega))).put ⟨w.heap.size+1,2,none⟩ _ (.inl (by simp only;omega))).put ⟨w.heap.size+1,3,none⟩ _ (.inl (by simp only;omega)) |>.put ⟨w.heap.size+1,4,none⟩ _ (.inl (by simp only;omega)))) ?_;have hr:=HZ.out.2.2.2.1.keep hB5;rw[HECA.out.1]at hr⊢;exact zW hr (by omega)
 ·have HA:=qd hask;clear hask;have hb0:(zt D2 0 != 0)=true:=by simpa using HA.out
  have hag2:Calls qp 87 #[.agg #[.slice D'.ta D'.ts.length D'.tc,.slice D'.ga D'.gs.length D'.gc,.slice D'.oa D'.os.length D'.oc,.slice D'.ha D'.hs.length D'.hc,.slice (some ⟨g,0,none⟩) D'.cs.length D'.cc]] Z fun e w'=>e=.returned (.tuple #[.agg #[.slice none 0 0,.slice none 0 0,.slice none 0 0,.slice none 0 0,.slice none 0 0],.int .i64 (zt D2 0)])/\Below Z.heap.size Z w':=by
   rw[<-HV.out];refine HAG.out.mono fun e w' h=>⟨?_,h.1⟩;rcases h.2 with h2|h2
   ·exact h2.2
   ·exact absurd h2.1 HA.out
  go_wp2_with (go_at_call 87;(with_reducible refine hag2.mono ?_);rintro e w5 ⟨rfl,hB5⟩;have c0:=qb _ hB5 b0;have f0:=qf _ hB5 b0 g0;have c1:=qb _ hB5 b1;have f1:=qf _ hB5 b1 g1;have c2:=qb _ hB5 b2;have f2:=qf _ hB5 b2 g2;have c3:=qb _ hB5 b3;have f3:=qf _ hB5 b3 g3;have c4:=qb _ hB5 b4;have f4:=qf _ hB5 b4 g4);refine LoadR.ret_ct5 results39 jZ jf rfl rfl c0 c1 c2 c3 c4 ?_;refine⟨LoadR.Below.set5 (bcl HZ.out.2.2.2.2 hB5) (by omega),D2,HZ.out.2.1,HZ.out.1,?_,.inl ⟨HA.out,rfl⟩⟩;rw[<-HD2.out];refine HECA.out.2.2.2.2.2 _ _ ((HZ.out.2.2.1.trans (Mod.below hB5)).trans (((((Mod.refl _ w5).put ⟨w.heap.size+1,0,none⟩ _ (.inl (by simp only;omega))).put ⟨w.heap.size+1,1,none⟩ _ (.inl (by simp only;omega))).put ⟨w.heap.size+1,2,none⟩ _ (.inl (by simp only;omega))).put ⟨w.heap.size+1,3,none⟩ _ (.inl (by simp only;omega)) |>.put ⟨w.heap.size+1,4,none⟩ _ (.inl (by simp only;omega)))) ?_;have hr:=HZ.out.2.2.2.1.keep hB5;rw[HECA.out.1]at hr⊢;exact zW hr (by omega)
end Go.Proofs.Tryz
