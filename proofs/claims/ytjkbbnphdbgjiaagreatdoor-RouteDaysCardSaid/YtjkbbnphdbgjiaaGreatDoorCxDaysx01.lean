/-
  Lemmas about the program and the machine (Q56 to D33), upon which the last text of this claim rests; no condition.
-/
import Derived.Test.YtjkbbnphdbgjiaaGreatDoorCz16
import Derived.Test.YtjkbbnphdbgjiaaGreatDoorCz21
set_option linter.unusedSimpArgs false
set_option linter.unusedVariables false
set_option maxRecDepth 100000
set_option maxHeartbeats 4000000
namespace Go.Proofs.Tryz
open Go Go.Load Go.LoadR Go.RowKit
theorem qcq(D:DayM)(m:Option Nat)(cb:Nat)(call:Int)(w:World)(hc:w.cell? ⟨cb,0,none⟩=some (.int .i64 call))(hl:D.gs.length<=20) :
 Calls qo 82 #[dm D m,pt cb] w fun e w'=>e=.returned (.int .i64 (qF call D.gs.length))/\Below w.heap.size w w':=by
 have hix:=fun W=>Qb call D.gs.length W (by omega) (by omega);unfold dm
 generalize Value.slice D.ta D.ts.length D.tc=x0 at *
 generalize Value.slice D.oa D.os.length D.oc=x2 at *
 generalize Value.slice D.ha D.hs.length D.hc=x3 at *
 generalize Value.slice D.ca D.cs.length D.cc=x4 at *
 have hb:=lt_of_cell hc;simp only at hb;go_enter (sf 82 f82),ntmps82;go_wp2_with (go_at_call 44;(with_reducible refine(hix _).mono ?_);rintro e w1 ⟨rfl,rfl⟩);go_ret;exact⟨rfl,by go_grown⟩
theorem qcr(D:DayM)(M:Nat)(A:Nat->Prop)(w0 w:World)(h:St D M A w0 w)(cb:Nat)(k:Nat)(hc:w.cell? ⟨cb,0,none⟩=some (.int .i64 k))(hk:k<4)(p:PastM) :
 Calls qo 83 #[pvP p,pt cb] w fun e w'=>e=.returned (.int .i64 (p.get k))/\St D M A w0 w'/\w.grownBy w' (some M):=by
 have hcell:∀W:World,W.cell? ⟨w.heap.size,0,none⟩=some (.int .i64 p.a)->W.cell? ⟨w.heap.size,1,none⟩=some (.int .i64 p.b)->W.cell? ⟨w.heap.size,2,none⟩=some (.int .i64 p.c)->W.cell? ⟨w.heap.size,3,none⟩=some (.int .i64 p.d)->W.cell? ⟨w.heap.size,k,none⟩=some (.int .i64 (p.get k)):=by
  intro W h0 h1 h2 h3
  match k,hk with
  | 0,_=>exact h0
  | 1,_=>exact h1
  | 2,_=>exact h2
  | 3,_=>exact h3
 have hb:=lt_of_cell hc;simp only at hb;obtain⟨R,hR⟩:∃R,p.get k=R:=⟨_,rfl⟩;rw[hR]at hcell⊢;have HST:=qd h;clear h hR;unfold pvP;obtain⟨pa,pb,pc,pd⟩:=p
 simp only at *
 have hk0:(0:Int)<=(k:Int):=Int.natCast_nonneg k;have hk1:(k:Int)<4:=by omega
 go_enter (sf 83 f83),ntmps83;obtain⟨W,hW⟩:∃W,w.alloc (Obj.cells #[.int .i64 pa,.int .i64 pb,.int .i64 pc,.int .i64 pd] 81)=W:=⟨_,rfl⟩;have hpg:W.cell? ⟨w.heap.size,k,none⟩=some (.int .i64 R):=by subst hW;exact hcell _ (by go_cell) (by go_cell) (by go_cell) (by go_cell)
 have hcW:W.cell? ⟨cb,0,none⟩=some (.int .i64 k):=by subst hW;go_cell
 have hBW:Below w.heap.size w W:=by subst hW;go_grown
 have hGW:w.grownBy W (some M):=qp hBW;clear hcell;go_upto_region 1 with fail;try rw[hW]
 clear hW;go_wp2;go_ret;exact⟨rfl,HST.out.keep (by go_grown),by first|exact hGW|exact qp (by go_grown)⟩
def XD(D:DayM)(k:Nat):List Int:=qM ((qw D).map fun p=>p.get k)
def qeQ(D:DayM)(call:Int)(w:World)(e:Ending)(w':World):Prop :=
 Below w.heap.size w w'/\((qZ D (qF call D.gs.length)≠0/\e=.returned (.tuple #[.slice none 0 0,.int .i64 (qZ D (qF call D.gs.length))])) \/
 (qZ D (qF call D.gs.length)=0/\∃a c,e=.returned (.tuple #[.slice a (XD D call.toNat).length c,.int .i64 0])/\(XD D call.toNat).length<=c/\qi w' 1 encI a (XD D call.toNat)))
theorem qeG(D:DayM)(w:World)(h:DayAt w D)(hs:DaySm D)(hG:Globs w)(call:Int):Calls qo 29 #[dv D,.int .i64 call] w (qeQ D call w):=by
 have hcl:=hs.gs.1;obtain⟨W,hW⟩:∃W,(w.alloc (Obj.cells #[.slice D.ta D.ts.length D.tc,.slice D.ga D.gs.length D.gc,.slice D.oa D.os.length D.oc,.slice D.ha D.hs.length D.hc,.slice D.ca D.cs.length D.cc] 28)).alloc (Obj.cells #[.int .i64 call] 3)=W:=⟨_,rfl⟩;have hBW:Below w.heap.size w W:=by subst hW;go_grown
 have hsW:W.heap.size=w.heap.size+2:=by subst hW;simp
 have k0:W.cell? ⟨w.heap.size,0,none⟩=some (.slice D.ta D.ts.length D.tc):=by subst hW;go_cell
 have k1:W.cell? ⟨w.heap.size,1,none⟩=some (.slice D.ga D.gs.length D.gc):=by subst hW;go_cell
 have k2:W.cell? ⟨w.heap.size,2,none⟩=some (.slice D.oa D.os.length D.oc):=by subst hW;go_cell
 have k3:W.cell? ⟨w.heap.size,3,none⟩=some (.slice D.ha D.hs.length D.hc):=by subst hW;go_cell
 have k4:W.cell? ⟨w.heap.size,4,none⟩=some (.slice D.ca D.cs.length D.cc):=by subst hW;go_cell
 have kc:W.cell? ⟨w.heap.size+1,0,none⟩=some (.int .i64 call):=by subst hW;go_cell
 have hask:=yT D W (h.keep hBW) hs (hG.keep hBW) 82 #[pt (w.heap.size+1)] (cE 82 (by decide +kernel)) (qF call D.gs.length) (fun M V hM hB=>qcq D (some M) (w.heap.size+1) call V (qb _ hB kc) hcl);obtain⟨al,hal⟩:∃al,qF call D.gs.length=al:=⟨_,rfl⟩;unfold qeQ;rw[hal]at hask⊢;have hdv:dv D=.agg #[.slice D.ta D.ts.length D.tc,.slice D.ga D.gs.length D.gc,.slice D.oa D.os.length D.oc,.slice D.ha D.hs.length D.hc,.slice D.ca D.cs.length D.cc]:=rfl;rw[hdv]at hask⊢;have HD:=qd (qg h (qg hs hal));clear h hs hG hdv hal;by_cases ha:qZ D al=0
 ·have hz:=zh ha;have hix:=yN (HD.out.2.2.trans hz.2);have hok:=hask.mono (fun e w' h=>h.ok ha);have HA:=qd ha;have HZ:=qd hz.1;clear hask ha hz;go_enter (sf 29 f29),ntmps29;go_upto_region 1 with fail;try rw[hW]
  clear hW;unfold dm at hok;go_upto_region 4 with(go_at_call 42;(with_reducible refine hok.mono ?_);rintro e w1 ⟨M,a,c,rfl,hpos,hlc,hrow,hfr,hst⟩;have hs1:=hst.bel.size);obtain⟨k,rfl⟩:=Int.eq_ofNat_of_zero_le hix.1;have hBV:=(Below.refl w1.heap.size w1).alloc ql (Obj.cells #[.slice D.ta D.ts.length D.tc,.slice D.ga D.gs.length D.gc,.slice D.oa D.os.length D.oc,.slice D.ha D.hs.length D.hc,.slice D.ca D.cs.length D.cc,.map (some M)] 73);obtain⟨V,hV⟩:∃V,w1.alloc (Obj.cells #[.slice D.ta D.ts.length D.tc,.slice D.ga D.gs.length D.gc,.slice D.oa D.os.length D.oc,.slice D.ha D.hs.length D.hc,.slice D.ca D.cs.length D.cc,.map (some M)] 73)=V:=⟨_,rfl⟩;rw[hV]at hBV⊢;have h4:=(qE D HZ.out).gs;have hsV:=hst.keep hBV;have hrV:=hrow.keep hBV;have kcV:=qb _ hsV.bel kc;have hga:=Qq D M (fun _=>False) W V hsV (fun b hb=>hb.elim) 83 #[pt (w.heap.size+1)] (cE 83 (by decide +kernel)) (fun p=>p.get k) (qw D) a c hpos (by have:=ze HZ.out;omega) hlc hrV (fun x hx A V2 hS hA hg=>qcr D M A W V2 hS (w.heap.size+1) k (hsV.cell hg kcV) (by omega) x);have HF:=qd (qg hBW hsV);clear hBV hV hrow hrV kcV hst hok hfr k0 k1 k2 k3 k4 kc h4;go_wp2_with (go_at_call 45;(with_reducible refine hga.mono ?_);rintro e w2 ⟨a2,c2,rfl,hl2,hr2,hf2,hst2,hg2⟩)
  go_ret2
  exact⟨Below.call HF.out.1 hst2.bel (by omega),.inr ⟨HA.out,a2,c2,rfl,hl2,hr2⟩⟩
 ·have hbad:=hask.mono (fun e w' h=>h.bad ha);have hb:(qZ D al != 0)=true:=by simpa using ha
  unfold dz at hbad;have HA:=qd ha;clear hask ha
  generalize qZ D al=r at *
  go_enter (sf 29 f29),ntmps29;go_upto_region 1 with fail;try rw[hW]
  clear hW;go_wp2_with (go_at_call 42;(with_reducible refine hbad.mono ?_);rintro e w1 ⟨rfl,hB1⟩;have hs1:=hB1.size)
  go_ret2
  exact⟨Below.call hBW (by go_grown) (by omega),.inl ⟨HA.out,rfl⟩⟩
def ZB(w:World)(L:List Int)(A:Int)(e:Ending)(w':World):Prop:=Below w.heap.size w w'/\∃a c,e=.returned (.tuple #[.slice a L.length c,.int .i64 A])/\L.length<=c/\qi w' 1 encI a L
theorem ZB.nil0{w w':World}{A:Int}(h:Below w.heap.size w w'):ZB w [] A (.returned (.tuple #[.slice none 0 0,.int .i64 A])) w':=⟨h,none,0,rfl,ql,qi.nil _ _ _ _⟩
def jT(D:DayM)(l:List Int):List Int:=if zT D l≠0 then[]else qD D (setOf (qy l))
theorem qgC(D:DayM)(l:List Int)(h:D.cs.length<=20):(jT D l).length<=100:=by
 unfold jT;split
 ·simp
 ·rw[qK];omega
theorem qej(D:DayM)(w:World)(h:DayAt w D)(hs:DaySm D)(hG:Globs w)(l:List Int)(a:Option Addr)(c:Nat)(hll:l.length<=20)(hlc:l.length<=c)(hr:qi w 1 encI a l):Calls qo 23 #[dv D,.slice a l.length c] w (ZB w (jT D l) (zT D l)):=by
 refine(qde D w h hs hG l a c hll hlc hr).mono ?_;rintro e w' ⟨hB,h1|h1⟩
 ·obtain⟨h0,rfl⟩:=h1;unfold jT;rw[if_pos h0];exact ZB.nil0 hB
 ·obtain⟨h0,a,c,rfl,hc,hr⟩:=h1;unfold jT;rw[if_neg (by simpa using h0),h0];exact⟨hB,a,c,rfl,hc,hr⟩
theorem qgF(D:DayM)(w:World)(h:DayAt w D)(hs:DaySm D)(l:List Int)(la:Option Addr)(lc:Nat)(hll:l.length<=20)(hlc:l.length<=lc)(hl:qi w 1 encI la l):Calls qo 24 #[dv D,.slice la l.length lc] w (ZB w (jT D l) (zT D l)):=by
 have hdv:dv D=.agg #[.slice D.ta D.ts.length D.tc,.slice D.ga D.gs.length D.gc,.slice D.oa D.os.length D.oc,.slice D.ha D.hs.length D.hc,.slice D.ca D.cs.length D.cc]:=rfl;have hck:=fun W (hB:Below w.heap.size w W)=>yB D W (h.keep hB) hs
 have hpo:checkN D=0->l.length=D.gs.length->(∀j,j<l.length->btw (l.getD j 0) 0 9=true)->zT D l=0/\∀W,Below w.heap.size w W->Calls qo 51 #[dv D,.slice la l.length lc] W (fun e w'=>Below W.heap.size W w'/\∃a c,e=.returned (.slice a (jT D l).length c)/\(jT D l).length<=c/\qi w' 1 encI a (jT D l)):=fun hz hn hb=>by
  have hx:∀x∈l,btw x 0 9=true:=fun x hx=>by
   obtain⟨j,hj,rfl⟩:=List.getElem_of_mem hx;have:=hb j hj;rwa[List.getD_eq_getElem?_getD,qG hj]at this
  have h0:zT D l=0:=by
   unfold zT;rw[if_neg (by simpa using hz),if_neg (by simpa using hn),if_neg (by rw[List.all_eq_true.2 hx];decide)]
  refine⟨h0,fun W hB=>(xx D l la lc W (h.keep hB) hs hz hn hlc (hl.keep hB) (fun x hm=>by have:=zF.1 (hx x hm);omega)).mono ?_⟩;rintro e w' ⟨⟨a,c,rfl,hc,hr⟩,hB1⟩;unfold jT;rw[if_neg (by simpa using h0)];exact⟨hB1,a,c,by rw[qK],by rw[qK];exact hc,hr⟩
 have hA1:checkN D≠0->zT D l=checkN D/\jT D l=[]:=fun hz=>by
  have e:zT D l=checkN D:=by unfold zT;rw[if_pos hz]
  exact⟨e,by unfold jT;rw[if_pos (by rw[e];exact hz)]⟩
 have hA2:checkN D=0->l.length≠D.gs.length->zT D l=2/\jT D l=[]:=fun hz hn=>by
  have e:zT D l=2:=by unfold zT;rw[if_neg (by simpa using hz),if_pos hn]
  exact⟨e,by unfold jT;rw[if_pos (by rw[e];decide)]⟩
 have hA3:checkN D=0->l.length=D.gs.length->∀j,j<l.length->btw (l.getD j 0) 0 9=false->zT D l=1/\jT D l=[]:=fun hz hn j hj hb=>by
  have e:zT D l=1:=by
   unfold zT;rw[if_neg (by simpa using hz),if_neg (by simpa using hn),if_pos];rw[List.all_eq_false];rw[List.getD_eq_getElem?_getD,qG hj]at hb;exact⟨l[j],List.getElem_mem hj,by simpa using hb⟩
  exact⟨e,by unfold jT;rw[if_pos (by rw[e];decide)]⟩
 have hgl:=hs.gs.1;obtain⟨A,hA⟩:∃A,zT D l=A:=⟨_,rfl⟩;obtain⟨R,hR⟩:∃R,jT D l=R:=⟨_,rfl⟩;rw[hA,hR]at hpo hA1 hA2 hA3⊢;rw[hdv]at hck hpo⊢
 generalize checkN D=C at *
 have HCK:=qd hck;have HPO:=qd hpo;have HL:=qd hl;have H1:=qd hA1;have H2:=qd hA2;have H3:=qd hA3;clear hck hpo hl hA1 hA2 hA3 hA hR h hs hdv;obtain⟨W,hW⟩:∃W,w.alloc (Obj.cells #[.slice D.ta D.ts.length D.tc,.slice D.ga D.gs.length D.gc,.slice D.oa D.os.length D.oc,.slice D.ha D.hs.length D.hc,.slice D.ca D.cs.length D.cc] 28)=W:=⟨_,rfl⟩;have h5:B5 W w.heap.size (.slice D.ta D.ts.length D.tc) (.slice D.ga D.gs.length D.gc) (.slice D.oa D.os.length D.oc) (.slice D.ha D.hs.length D.hc) (.slice D.ca D.cs.length D.cc):=by subst hW;exact B5.new ..
 have hBW:Below w.heap.size w W:=by subst hW;go_grown
 obtain⟨k0,k1,k2,k3,k4⟩:=h5;go_enter (sf 24 f24),ntmps24;go_upto_region 1 with fail;try rw[hW]
 clear hW;go_upto_region 2 with(go_at_call 26;(with_reducible refine(HCK.out _ hBW).mono ?_);rintro e W1 ⟨rfl,hB1⟩;replace k0:=qb _ hB1 k0;replace k1:=qb _ hB1 k1;replace k2:=qb _ hB1 k2;replace k3:=qb _ hB1 k3;replace k4:=qb _ hB1 k4);have hB2:=bcl hBW hB1;have HL2:=qd (HL.out.keep hB2);clear HL hBW hB1;by_cases hC:C=0;rotate_left 1
 ·have hne:(C != 0)=true:=by simpa using hC
  obtain⟨e1,e2⟩:=H1.out hC;clear H1 H2 H3 HPO;go_wp2
  go_ret2
  rw[e1,e2];exact ZB.nil0 hB2
 subst hC;clear H1;go_upto_region 4 with fail;by_cases hn:l.length=D.gs.length;rotate_left 1
 ·have hne:((l.length:Int) != (D.gs.length:Int))=true:=bne_iff_ne.2 (by omega);obtain⟨e1,e2⟩:=H2.out (by first|rfl|trivial) hn;clear H2 H3 HPO;go_wp2
  go_ret2
  rw[e1,e2];exact ZB.nil0 hB2
 have hne:((l.length:Int) != (D.gs.length:Int))=false:=bne_eq_false_iff_eq.2 (by omega);have HN:=qd hn;clear hn H2;go_wp2;obtain⟨X,hX⟩:∃X,X=W1:=⟨_,rfl⟩;subst hX;go_loopw [7] (fun i wr=>∃k:Nat,i=.int .i64 k/\k<=l.length/\wr=X/\Hid (∀j,j<k->btw (l.getD j 0) 0 9=true)) (fun i _=>l.length-(intOf i).toNat);case atStart=>exact⟨0,rfl,Nat.zero_le _,rfl,qd fun j hj=>absurd hj (Nat.not_lt_zero _)⟩
 case round =>
  obtain⟨k,rfl,hk,rfl,HB⟩:=hrel;by_cases hlt:k<l.length
  ·obtain⟨x,hx⟩:∃x,l[k]? = some x:=⟨_,qG hlt⟩;obtain⟨b,o,rfl,hQ⟩:=HL2.out (by omega);have c0:=hQ k x hx 0 _ rfl;simp only[Nat.mul_one,Nat.add_zero]at c0;have hk1:(k:Int)<(l.length:Int):=(by omega);have hk2:(k:Int)<=(lc:Int):=(by omega);have hxd:l.getD k 0=x:=(by rw[List.getD_eq_getElem?_getD,hx];rfl);have HX:=qd hxd;clear hQ hx hxd;have hin:=fun V=>Ze x 0 9 V
   cases hb:btw x 0 9 with
   | true =>
     rw[hb]at hin;have HBB:=qd hb;clear hb;go_wp2_with (go_at_call 21;(with_reducible refine(hin _).mono ?_);rintro e V ⟨rfl,rfl⟩);go_roundw
     case rel =>
      refine⟨k+1,rfl,by omega,(by first|rfl|trivial),qd fun j hj=>?_⟩;by_cases e:j=k
      ·subst e;rw[HX.out];exact HBB.out
      ·exact HB.out j (by omega)
     case measure=>simp[intOf];omega
   | false =>
     rw[hb]at hin;have HBB:=qd hb;clear hb;go_wp2_with (go_at_call 21;(with_reducible refine(hin _).mono ?_);rintro e V ⟨rfl,rfl⟩)
     go_ret2
     obtain⟨e1,e2⟩:=H3.out (by first|rfl|trivial) HN.out k (by omega) (by rw[HX.out];exact HBB.out);rw[e1,e2];exact ZB.nil0 hB2
  ·obtain rfl:k=l.length:=(by omega);obtain⟨e1,hp⟩:=HPO.out (by first|rfl|trivial) HN.out HB.out;subst e1;have HP:=qd hp;clear hp HPO H3;go_wp2_with (go_at_call 51;(with_reducible refine(HP.out _ hB2).mono ?_);intro e V hV;obtain⟨hB3,a,c,he,hc,hr⟩:=hV;subst he)
   go_ret2
   exact⟨bcl hB2 hB3,a,c,rfl,hc,hr⟩
theorem XN(D:DayM)(w:World)(h:DayAt w D)(hs:DaySm D):Calls qo 28 #[dv D] w (qeO D w):=by
 have hdv:dv D=.agg #[.slice D.ta D.ts.length D.tc,.slice D.ga D.gs.length D.gc,.slice D.oa D.os.length D.oc,.slice D.ha D.hs.length D.hc,.slice D.ca D.cs.length D.cc]:=rfl;have hck:=fun W (hB:Below w.heap.size w W)=>yB D W (h.keep hB) hs;have hpo:=fun(hz:checkN D=0) W (hB:Below w.heap.size w W)=>Qh D W (h.keep hB) hs hz;have hll:checkN D=0->(qO D).length=(qw D).length:=fun hz=>by rw[<-ym D (qE D hz).gs,List.length_map]
 unfold qeO;rw[hdv]at hck hpo⊢;obtain⟨N,hN⟩:∃N,(qw D).length=N:=⟨_,rfl⟩;rw[hN]at hll⊢
 generalize checkN D=C at *
 obtain⟨R,hR⟩:∃R:Int,(if C≠0 then(0:Int)else(N:Int))=R:=⟨_,rfl⟩;rw[hR];have HR:=qd hR;clear hR;have HCK:=qd hck;have HPO:=qd hpo;have HLL:=qd hll;clear hck hpo hll h hs hdv hN;obtain⟨W,hW⟩:∃W,w.alloc (Obj.cells #[.slice D.ta D.ts.length D.tc,.slice D.ga D.gs.length D.gc,.slice D.oa D.os.length D.oc,.slice D.ha D.hs.length D.hc,.slice D.ca D.cs.length D.cc] 28)=W:=⟨_,rfl⟩;have h5:B5 W w.heap.size (.slice D.ta D.ts.length D.tc) (.slice D.ga D.gs.length D.gc) (.slice D.oa D.os.length D.oc) (.slice D.ha D.hs.length D.hc) (.slice D.ca D.cs.length D.cc):=by subst hW;exact B5.new ..
 have hBW:Below w.heap.size w W:=by subst hW;go_grown
 obtain⟨k0,k1,k2,k3,k4⟩:=h5;go_enter (sf 28 f28),ntmps28;go_upto_region 1 with fail;try rw[hW]
 clear hW;go_upto_region 2 with(go_at_call 26;(with_reducible refine(HCK.out _ hBW).mono ?_);rintro e W1 ⟨rfl,hB1⟩;replace k0:=qb _ hB1 k0;replace k1:=qb _ hB1 k1;replace k2:=qb _ hB1 k2;replace k3:=qb _ hB1 k3;replace k4:=qb _ hB1 k4);have hB2:=bcl hBW hB1;by_cases hC:C=0
 ·subst hC;go_wp2_with (go_at_call 19;(with_reducible refine(HPO.out rfl _ hB2).mono ?_);intro e W2 hP;obtain⟨a,c,ws,he,hwc,hwm,hwr,hww,hB3⟩:=hP;subst he);have hB4:=bcl hB2 hB3;have hl:=congrArg List.length hwm;rw[List.length_map,HLL.out (by first|rfl|trivial)]at hl
  go_ret2
  exact⟨by have e:=HR.out;rw[if_neg (by simp),<-hl]at e;rw[<-e];rfl,hB4⟩
 ·have hne:(C != 0)=true:=by simpa using hC
  have HC:=qd hC;clear hC;go_wp2
  go_ret2
  exact⟨by have e:=HR.out;rw[if_pos HC.out]at e;rw[<-e];rfl,hB2⟩
def anyT(k:Nat)(LS:List (List Int))(n:Int):Bool:=LS.any fun u=>u.getD k 0==n
def yJ(D:DayM)(k:Nat)(j:Nat):List Int:=((List.range j).map fun(i:Nat)=>(i:Int)).filter (anyT k (qO D))
theorem qaa(D:DayM)(k j:Nat):yJ D k (j+1)=yJ D k j++if anyT k (qO D) ((j:Int))=true then[(j:Int)]else[]:=by
 unfold yJ;rw[List.range_succ,List.map_append,List.filter_append];congr 1;simp only[List.map_cons,List.map_nil,List.filter_cons,List.filter_nil]
theorem Yq(D:DayM)(k j:Nat):(yJ D k j).length<=j:=by
 have:=List.length_filter_le (anyT k (qO D)) ((List.range j).map fun(i:Nat)=>(i:Int));rw[List.length_map,List.length_range]at this;exact this
def qcD(D:DayM)(call:Int)(w:World)(e:Ending)(w':World):Prop :=
 Below w.heap.size w w'/\((qZ D (qF call D.gs.length)≠0/\e=.returned (.tuple #[.slice none 0 0,.int .i64 (qZ D (qF call D.gs.length))])) \/
 (qZ D (qF call D.gs.length)=0/\∃a c,e=.returned (.tuple #[.slice a (yJ D call.toNat 7).length c,.int .i64 0])/\(yJ D call.toNat 7).length<=c/\qi w' 1 encI a (yJ D call.toNat 7)))
theorem qcd(D:DayM)(call:Int)(w:World)(h:DayAt w D)(hs:DaySm D):Calls qo 30 #[dv D,.int .i64 call] w (qcD D call w):=by
 have hdv:dv D=.agg #[.slice D.ta D.ts.length D.tc,.slice D.ga D.gs.length D.gc,.slice D.oa D.os.length D.oc,.slice D.ha D.hs.length D.hc,.slice D.ca D.cs.length D.cc]:=rfl;have hth:=fun W=>xL call D.gs.length (by omega) (by have:=hs.gs.1;omega) W;have hix:(if btw call 0 ((D.gs.length:Int)-1)=true then(0:Int)else 6)=qF call D.gs.length:=rfl;have hask:=fun W (hB:Below w.heap.size w W)=>jD D (btw call 0 ((D.gs.length:Int)-1)) 6 W (h.keep hB) hs (fun _=>by decide);rw[hix]at hask;have hbt:=@zF call 0 ((D.gs.length:Int)-1);unfold qcD;have hask2:=fun W (hB:Below w.heap.size w W)=>(hask W hB);unfold qai at hask2
 have hin:qZ D (qF call D.gs.length)=0->checkN D=0/\btw call 0 ((D.gs.length:Int)-1)=true:=fun e=>by
  unfold qZ at e;by_cases h1:checkN D=0
  ·rw[if_neg (by simpa using h1)]at e;refine⟨h1,?_⟩;by_cases h2:btw call 0 ((D.gs.length:Int)-1)=true
   ·exact h2
   ·unfold qF at e;rw[if_neg h2]at e;simp at e
  ·rw[if_pos h1]at e;exact absurd e h1
 obtain⟨A,hA⟩:∃A,qZ D (qF call D.gs.length)=A:=⟨_,rfl⟩;rw[hA]at hask2 hin⊢;rw[hdv]at hask2⊢
 generalize btw call 0 ((D.gs.length:Int)-1)=B at *
 have HD:=qd (qg h (qg hs (qg hdv (qg hin hbt))));have HTH:=qd hth;have HAS:=qd hask2;clear h hs hdv hth hix hask hask2 hA hin hbt;obtain⟨W,hW⟩:∃W,w.alloc (Obj.cells #[.slice D.ta D.ts.length D.tc,.slice D.ga D.gs.length D.gc,.slice D.oa D.os.length D.oc,.slice D.ha D.hs.length D.hc,.slice D.ca D.cs.length D.cc] 28)=W:=⟨_,rfl⟩;have h5:B5 W w.heap.size (.slice D.ta D.ts.length D.tc) (.slice D.ga D.gs.length D.gc) (.slice D.oa D.os.length D.oc) (.slice D.ha D.hs.length D.hc) (.slice D.ca D.cs.length D.cc):=by subst hW;exact B5.new ..
 have hBW:Below w.heap.size w W:=by subst hW;go_grown
 have H5:=qd h5;obtain⟨k0,k1,k2,k3,k4⟩:=h5;by_cases hA0:A=0;rotate_left 1
 ·have has:=fun V (hB:Below w.heap.size w V)=>(HAS.out V hB).mono fun e w' hp=>(show Below V.heap.size V w'/\e=.returned (.tuple #[.slice none 0 0,.int .i64 A])from⟨hp.1,hp.2.elim (fun h=>h.2) (fun h=>absurd h.1 hA0)⟩);have HAB:=qd has;have hne:(A != 0)=true:=by simpa using hA0
  clear has HAS;go_enter (sf 30 f30),ntmps30;go_upto_region 1 with fail;try rw[hW]
  clear hW;refine wp_region_held_drew (S:=(RHL [(⟨w.heap.size,0,none⟩,.slice D.ta D.ts.length D.tc),(⟨w.heap.size,1,none⟩,.slice D.ga D.gs.length D.gc),(⟨w.heap.size,2,none⟩,.slice D.oa D.os.length D.oc),(⟨w.heap.size,3,none⟩,.slice D.ha D.hs.length D.hc),(⟨w.heap.size,4,none⟩,.slice D.ca D.cs.length D.cc)] W)) (by kernel_rfl) (by exact RHL.drew ⟨k0,k1,k2,k3,k4,Below.refl _ _⟩) (fun hHeld=>?_);refine tk 0 ?_;refine tk 1 ?_;refine tk 2 ?_;refine tk 3 ?_;(refine tk 4 ?_;try simp only[zs,Act.put]);refine tkR 5 fun K hK=>?_;go_simp;go_wp2_with (go_at_call 50;(with_reducible refine(HTH.out _).mono ?_);rintro e V1 ⟨rfl,rfl⟩);refine hK.out _ _ (by exact hHeld) (fun hHeldN=>?_);clear hK K hHeld;have hHeld:=hHeldN;clear hHeldN;try simp only[zs,Act.put]
  refine tkR 6 fun K hK=>?_;go_simp;go_wp2_with (go_at_call 49;(with_reducible refine(HAB.out _ (bcl hBW (RHL.bel hHeld))).mono ?_);rintro e X ⟨hB5,rfl⟩);refine hK.out _ _ (by exact RHL.call hHeld hB5) (fun hHeldN=>?_);clear hK K hHeld;have hHeld:=hHeldN;clear hHeldN;try simp only[zs,Act.put]
  refine tk 7 ?_;refine tk 8 ?_;refine tk 9 ?_;refine tk 10 ?_;(refine tk 11 ?_;try simp only[zs,Act.put]);refine wpAnyH_done (by kernel_rfl) ?_ _;try simp only[zs,Act.put]
  have hB4:=bcl hBW (RHL.bel hHeld);clear hHeld;go_wp2
  go_ret2
  exact⟨hB4,.inl ⟨hA0,rfl⟩⟩
 ·subst hA0;have has:=fun V (hB:Below w.heap.size w V)=>(HAS.out V hB).mono fun e w' hp=>(show Below V.heap.size V w'/\∃a c ws,e=.returned (.tuple #[.slice a ws.length c,.int .i64 0])/\0<ws.length/\ws.length<=c/\ws.map (·.l)=qO D/\qi w' 1 yU a ws/\∀x∈ws,qi w' 1 encI x.a x.l/\x.l.length<=x.c from⟨hp.1,hp.2.elim (fun h=>absurd rfl h.1) (fun h=>h.2)⟩);have HAB:=qd has;clear has HAS;go_enter (sf 30 f30),ntmps30;go_upto_region 1 with fail;try rw[hW]
  clear hW;refine wp_region_held_drew (S:=(RHL [(⟨w.heap.size,0,none⟩,.slice D.ta D.ts.length D.tc),(⟨w.heap.size,1,none⟩,.slice D.ga D.gs.length D.gc),(⟨w.heap.size,2,none⟩,.slice D.oa D.os.length D.oc),(⟨w.heap.size,3,none⟩,.slice D.ha D.hs.length D.hc),(⟨w.heap.size,4,none⟩,.slice D.ca D.cs.length D.cc)] W)) (by kernel_rfl) (by exact RHL.drew ⟨k0,k1,k2,k3,k4,Below.refl _ _⟩) (fun hHeld=>?_);refine tk 0 ?_;refine tk 1 ?_;refine tk 2 ?_;refine tk 3 ?_;(refine tk 4 ?_;try simp only[zs,Act.put]);refine tkR 5 fun K hK=>?_;go_simp;go_wp2_with (go_at_call 50;(with_reducible refine(HTH.out _).mono ?_);rintro e V1 ⟨rfl,rfl⟩);refine hK.out _ _ (by exact hHeld) (fun hHeldN=>?_);clear hK K hHeld;have hHeld:=hHeldN;clear hHeldN;try simp only[zs,Act.put]
  refine tkR 6 fun K hK=>?_;go_simp;go_wp2_with (go_at_call 49;(with_reducible refine(HAB.out _ (bcl hBW (RHL.bel hHeld))).mono ?_);intro e X hP;obtain⟨hB5,a,c,ws,he,hw0,hwc,hwm,hwr,hww⟩:=hP;subst he);refine hK.out _ _ (by exact RHL.call hHeld hB5) (fun hHeldN=>?_);clear hK K hHeld;have hHeld:=hHeldN;clear hHeldN;try simp only[zs,Act.put]
  refine tk 7 ?_;refine tk 8 ?_;refine tk 9 ?_;refine tk 10 ?_;(refine tk 11 ?_;try simp only[zs,Act.put]);refine wpAnyH_done (by kernel_rfl) ?_ _;try simp only[zs,Act.put]
  have hB4:=RHL.bel hHeld;have hBX:=bcl hBW hB4;have HKX:=qd hHeld;obtain⟨hz,hB⟩:=HD.out.2.2.2.1 (by first|rfl|trivial);have hk9:=HD.out.2.2.2.2.1 hB;obtain⟨k,rfl⟩:∃k:Nat,call=k:=⟨call.toNat,by omega⟩;have hkl:k<D.gs.length:=by omega
  have hok:=qdx.of hz hwm hww;have hwl:=congrArg List.length hwm;rw[List.length_map,xq D (qE D hz).gs]at hwl
  have hany:∀n,anyT k (qO D) n=ws.any fun x=>x.l.getD k 0==n:=fun n=>by
   unfold anyT;rw[<-hwm,List.any_map];rfl
  have hpn:ws.length<=81:=by
   have h9:=yO D.gs [] (fun g hg=>by have:=yD D hz g hg;omega);have h8:=List.length_filter_le (fun t:List Int=>yG (qD D (setOf (qy t))) D.cs) (zO D.gs []);have h7:3 ^ D.gs.length<=81:=Nat.pow_le_pow_right (n:=3) (by decide) (qE D hz).gs;have h6:=congrArg List.length hwm;rw[List.length_map]at h6;have h5:(qO D).length<=(zO D.gs []).length:=h8;omega
  have HOK:=qd hok;have HX:=qd (qg hwr (qg hany hBX));obtain⟨i0,hi,hiz,his,hib⟩:=info_parts yX;have hU:qo.underlying 31=some (.slice 3):=(qH _).trans Tryz.underlying31;have hk0:(0:Int)<=(k:Int):=Int.natCast_nonneg k;clear hHeld hB4 hwr hww hwm hwl hok hany hBX hz hB hk9 H5 HTH HAB hw0;go_wp2;go_loopw [9,8] (fun i u wr=>∃(j:Nat) (v:Value),i=.int .i64 (j:Int)/\v=u/\j<=7/\Hid (Below X.heap.size X wr)/\Hid (wr.ownsRow X.heap.size 3 1 v (yJ D k j).length ((yJ D k j).map (.int .i64)))) (fun i _ _=>(7-intOf i).toNat);case atStart=>exact⟨0,_,rfl,rfl,by omega,qd (Below.refl _ _),qd (World.ownsRow_nil _ _ _ _)⟩
  case round =>
   obtain⟨j,v,rfl,rfl,hj,HB,HO⟩:=hrel;obtain⟨U,hU9⟩:∃U,U=wr:=⟨_,rfl⟩;subst hU9;by_cases hlt:(j:Int)<=6
   ·have hsu:=qaa D k j;rw[HX.out.2.1]at hsu;have hrl:=Yq D k j;have HSU:=qd hsu;obtain⟨n,hn⟩:∃n,(j:Int)=n:=⟨_,rfl⟩;rw[hn]at HSU⊢;have HN:=qd hn;have hn1:n<=6:=(by omega);have hn2:0<=n:=(by omega);clear hsu hn hlt;go_wp2;go_loopw [11,10] (fun i u wr=>∃(m:Nat),i=.int .i64 m/\u=.bool ((ws.take m).any fun x=>x.l.getD k 0==n)/\m<=ws.length/\Hid (Below U.heap.size U wr)) (fun i _ _=>ws.length-(intOf i).toNat);case atStart=>exact⟨0,rfl,by simp,by omega,qd (Below.refl _ _)⟩
    case round =>
     obtain⟨m,rfl,rfl,hm,HI⟩:=hrel;have hBi:=bcl HB.out HI.out;by_cases hlt2:m<ws.length
     ·obtain⟨x,hx⟩:∃x,ws[m]? = some x:=⟨_,qG hlt2⟩;obtain⟨b,o,rfl,hP⟩:=HX.out.1 (by omega);have c0:=qb _ hBi (hP m x hx 0 _ rfl);simp only[Nat.mul_one,Nat.add_zero]at c0;have hm1:(m:Int)<(ws.length:Int):=(by omega);have hm2:(m:Int)<=(c:Int):=(by omega);have HXM:=qd hx;obtain⟨B2,hB2⟩:∃B2,((ws.take m).any fun x=>x.l.getD k 0==n)=B2:=⟨_,rfl⟩;have HB2:=qd hB2;rw[hB2];have hx0:=hx;clear hP hx hB2;obtain⟨h1,h2,h3,-⟩:=HOK.out x (qI hx0);obtain⟨v,hv⟩:∃v,x.l[k]? = some v:=⟨_,qG (by omega)⟩;have hxd:x.l.getD k 0=v:=(by rw[List.getD_eq_getElem?_getD,hv];rfl);obtain⟨xl,xa,xc⟩:=x;simp only at c0 h1 h2 h3 hv hxd;obtain⟨pb,po,rfl,hQ⟩:=h1 (by omega);have q0:=qb _ hBi (hQ k v hv 0 _ rfl);simp only[Nat.mul_one,Nat.add_zero]at q0;have hkp:(k:Int)<=(xc:Int):=(by omega);have hkq:(k:Int)<(xl.length:Int):=(by omega);have HXD:=qd hxd;clear hQ hv hxd h1 h2 h3 hx0
      cases B2 with
      | true =>
        go_wp2;go_roundw
        case rel =>
         refine⟨m+1,rfl,?_,by omega,HI⟩;obtain⟨h9,h8⟩:=qC HXM.out;rw[List.take_succ_eq_append_getElem h9,List.any_append,HB2.out];rfl
        case measure=>simp[intOf];omega
      | false =>
        go_wp2;go_roundw;(case rel=>exact⟨m+1,rfl,by rw[any_take_succ _ HXM.out HB2.out];simp only[HXD.out],by omega,HI⟩);case measure=>simp[intOf];omega
     ·obtain rfl:m=ws.length:=(by omega);have HO7:=qd (zf HO.out HI.out);have HB7:=qd hBi;rw[List.take_length];have hsu:=HSU.out;have hnn:=HN.out;obtain⟨B2,hB2⟩:∃B2,(ws.any fun x=>x.l.getD k 0==n)=B2:=⟨_,rfl⟩;rw[hB2]at hsu⊢;have HSV:=qd hsu;have HNN:=qd hnn;clear hsu hB2 HSU HO HB HI hBi hm hlt2 hnn
      cases B2 with
      | false =>
        have hwn:wrap64 (n+1)=n+1:=wrap_small (by omega) (by omega);go_wp2;go_roundw;(case rel=>exact⟨j+1,v,congrArg (Value.int .i64) (by have:=HNN.out;clear hwn;omega),rfl,by have:=HNN.out;clear hwn;omega,HB7,qd (by rw[HSV.out];simpa using HO7.out)⟩);case measure=>simp[intOf];clear hwn;omega
      | true =>
        have hwn:wrap64 (n+1)=n+1:=wrap_small (by omega) (by omega);have HWN:=qd hwn;clear hwn;go_upto_region 7 with(at_builtin;refine wpList_append_own_at _ rfl (.tmp 48) (.tmp 50) 31 rfl X.heap.size 3 i0 (.int .i64 0) 1 8 hU hi hiz his hib rfl (by decide) _ _ _ rfl (HO7.out.alloc _) ⟨wr.heap.size,0,none⟩ 1 1 [.int .i64 n] rfl rfl (cell_one_new _ _ _) (jf n) (by unfold maxLen;omega) (by omega) (by have h9:X.heap.size<=wr.heap.size:=HB7.out.size;simp;omega) ?_;intro v1 w3 n1 y1 nil1 at1);have y2:(wr.alloc (.cells #[.int .i64 n] 3)).grownBy w3 v.ownBlock:=y1;have hB3:=HB7.out.trans (((Mod.below ((Below.refl _ wr).alloc ql _)).trans (Mod.grown (S:=fun b=>v.ownBlock=some b) y2 (fun b e=>e))).keep HB7.out.size (fun b hb=>(HO7.out.lt b hb).1));have hwn:=HWN.out;go_wp2;go_roundw
        case rel =>
         clear hwn;refine⟨j+1,v1,congrArg (Value.int .i64) (by have:=HNN.out;omega),rfl,by have:=HNN.out;omega,qd hB3,qd ?_⟩;rw[HSV.out,if_pos rfl,List.length_append,List.map_append];exact n1
        case measure=>clear hwn;simp[intOf];omega
   ·obtain rfl:j=7:=(by omega);obtain⟨ra,rc,hv,hrc,hrr⟩:=zt HO.out;subst hv;have HV:=qd (qg hrc (qg hrr (bcl HX.out.2.2 HB.out)));clear hrc hrr;go_wp2
    go_ret2
    exact⟨HV.out.2.2,ra,rc,rfl,HV.out.1,HV.out.2.1⟩
theorem qbZ{D:DayM}(hz:checkN D=0)(k:Nat)(hk:k<D.gs.length):∀u∈qO D,0<=u.getD k 0/\u.getD k 0<=6:=fun u hu=>by
 have h:=ZY hz u hu;rw[List.getD_eq_getElem?_getD,qG (by omega)];exact h.2 _ (List.getElem_mem _)
theorem XR{D:DayM}(hz:checkN D=0)(k:Nat)(hk:k<D.gs.length):XD D k=yJ D k 7:=by
 have h4:=(qE D hz).gs;unfold XD;rw[<-ym D h4,List.map_map];unfold yJ;refine qaA (List.Pairwise.filter _ (by decide)) fun x=>?_;rw[List.mem_filter];constructor
 ·rintro⟨_,h⟩;unfold anyT at h;obtain⟨u,hu,he⟩:=List.any_eq_true.1 h;exact List.mem_map.2 ⟨u,hu,by rw[<-beq_iff_eq.1 he];exact zy u (by omega)⟩
 ·intro h;obtain⟨u,hu,rfl⟩:=List.mem_map.1 h;have h1:=qbZ hz k hk u hu;have e:(qy u).get k=u.getD k 0:=zy u (by omega);show(qy u).get k∈_/\anyT k (qO D) ((qy u).get k)=true;rw[e];refine⟨List.mem_map.2 ⟨(u.getD k 0).toNat,List.mem_range.2 (by omega),by omega⟩,?_⟩;unfold anyT;exact List.any_eq_true.2 ⟨u,hu,by simp⟩
def Ye(D:DayM)(g:Int):List Int:=if qZ D (qF g D.gs.length)≠0 then[]else yJ D g.toNat 7
theorem qcs(D:DayM)(g:Int):(Ye D g).length<=100:=by
 unfold Ye;split
 ·simp
 ·exact Nat.le_trans (Yq _ _ _) (by decide)
theorem qct(D:DayM)(hs:DaySm D)(g:Int):(∀w,DayAt w D->Globs w->Calls qo 29 #[dv D,.int .i64 g] w (ZB w (Ye D g) (qZ D (qF g D.gs.length))))/\(∀w,DayAt w D->Calls qo 30 #[dv D,.int .i64 g] w (ZB w (Ye D g) (qZ D (qF g D.gs.length)))):=by
 unfold Ye;constructor
 ·intro w h hG;refine(qeG D w h hs hG g).mono ?_;rintro e w' ⟨hB,h1|h1⟩
  ·obtain⟨h0,rfl⟩:=h1;rw[if_pos h0];exact ZB.nil0 hB
  ·obtain⟨h0,a,c,rfl,hc,hr⟩:=h1;rw[if_neg (by simpa using h0),h0];have hz:=zh h0;have hi:=yN hz.2;rw[XR hz.1 g.toNat (by omega)]at hc hr⊢;exact⟨hB,a,c,rfl,hc,hr⟩
 ·intro w h;refine(qcd D g w h hs).mono ?_;rintro e w' ⟨hB,h1|h1⟩
  ·obtain⟨h0,rfl⟩:=h1;rw[if_pos h0];exact ZB.nil0 hB
  ·obtain⟨h0,a,c,rfl,hc,hr⟩:=h1;rw[if_neg (by simpa using h0),h0];exact⟨hB,a,c,rfl,hc,hr⟩
theorem qaj(D:DayM)(l:List Int)(la:Option Addr)(lc:Nat)(g:Int)(w:World)(hG:Globs w)(h:DayAt w D)(hcap:DayCap D)(hlc:l.length<=lc)(hl:qi w 1 encI la l) :
 Calls qo 5 #[dv D,.slice la l.length lc,.int .i64 g] w fun e w'=>e=.returned (.bool true):=by
 have hgr:=fun W (hB:Below w.heap.size w W)=>YQ D W (h.keep hB) hcap;have hro:=fun W (hB:Below w.heap.size w W)=>Yb W (hG.keep hB);have hdv:dv D=.agg #[.slice D.ta D.ts.length D.tc,.slice D.ga D.gs.length D.gc,.slice D.oa D.os.length D.oc,.slice D.ha D.hs.length D.hc,.slice D.ca D.cs.length D.cc]:=rfl;have HRO:=qd hro;clear hro;obtain⟨W,hW⟩:∃W,w.alloc (Obj.cells #[.slice D.ta D.ts.length D.tc,.slice D.ga D.gs.length D.gc,.slice D.oa D.os.length D.oc,.slice D.ha D.hs.length D.hc,.slice D.ca D.cs.length D.cc] 28)=W:=⟨_,rfl⟩;have h5:B5 W w.heap.size (.slice D.ta D.ts.length D.tc) (.slice D.ga D.gs.length D.gc) (.slice D.oa D.os.length D.oc) (.slice D.ha D.hs.length D.hc) (.slice D.ca D.cs.length D.cc):=by subst hW;exact B5.new ..
 have hBw:Below w.heap.size w W:=by subst hW;go_grown
 obtain⟨k0,k1,k2,k3,k4⟩:=h5
 cases hf:QK D with
 | true =>
   rw[hf]at hgr;rw[hdv]at hgr⊢;have HF:=qd hgr;clear hgr hdv hf h hG hcap hl;go_enter (sf 5 f5),ntmps5;go_upto_region 1 with fail;(try rw[hW]);clear hW;go_upto_region 2 with(go_at_call 7;(with_reducible refine(HF.out _ hBw).mono ?_);rintro e W1 ⟨rfl,hB1⟩;replace hBw:=bcl hBw hB1;clear hB1);go_wp2_with (go_at_call 8;(with_reducible refine(HRO.out _ hBw).mono ?_);rintro e W2 ⟨rfl,hB2⟩);go_ret;rfl
 | false =>
   have hs:=YG hf hcap;rw[hf]at hgr;by_cases h20:l.length<=20;rotate_left 1
   ·have h21:(20:Int)<(l.length:Int):=(by omega);rw[hdv]at hgr⊢;have HF:=qd hgr;clear hgr hdv hf h hG hcap hl hs;go_enter (sf 5 f5),ntmps5;go_upto_region 1 with fail;(try rw[hW]);clear hW;go_upto_region 2 with(go_at_call 7;(with_reducible refine(HF.out _ hBw).mono ?_);rintro e W1 ⟨rfl,hB1⟩;replace hBw:=bcl hBw hB1;clear hB1);go_wp2_with (go_at_call 8;(with_reducible refine(HRO.out _ hBw).mono ?_);rintro e W2 ⟨rfl,hB2⟩);go_ret;rfl
   have h21:¬(20:Int)<(l.length:Int):=(by omega);obtain⟨ht1,ht2⟩:=qct D hs g;have nc1:=fun V (hB:Below w.heap.size w V)=>jU D V (h.keep hB) hs (hG.keep hB);have nc2:=fun V (hB:Below w.heap.size w V)=>yB D V (h.keep hB) hs;have np1:=fun V (hB:Below w.heap.size w V)=>qej D V (h.keep hB) hs (hG.keep hB) l la lc h20 hlc (hl.keep hB);have np2:=fun V (hB:Below w.heap.size w V)=>qgF D V (h.keep hB) hs l la lc h20 hlc (hl.keep hB);have nh1:=fun V (hB:Below w.heap.size w V)=>qcU D V (h.keep hB) hs (hG.keep hB);have nh2:=fun V (hB:Below w.heap.size w V)=>XN D V (h.keep hB) hs;have nt1:=fun V (hB:Below w.heap.size w V)=>ht1 V (h.keep hB) (hG.keep hB);have nt2:=fun V (hB:Below w.heap.size w V)=>ht2 V (h.keep hB);have hL1:=qgC D l hs.cs.1;have hL2:=qcs D g;unfold qeO at nh1 nh2
   generalize(if checkN D≠0 then(0:Int)else((qw D).length:Int))=S at *
   generalize checkN D=C at *
   generalize qZ D (qF g D.gs.length)=A1 at *
   generalize zT D l=A2 at *
   generalize jT D l=L1 at *
   generalize Ye D g=L2 at *
   unfold ZB at np1 np2 nt1 nt2;rw[hdv]at hgr nc1 nc2 np1 np2 nh1 nh2 nt1 nt2⊢;have HF:=qd hgr;have C1:=qd nc1;have C2:=qd nc2;have P1:=qd np1;have P2:=qd np2;have T1:=qd nt1;have T2:=qd nt2;have H1:=qd nh1;have H2:=qd nh2;have HLL:=qd (qg hL1 hL2);clear hgr nc1 nc2 np1 np2 nh1 nh2 nt1 nt2 ht1 ht2 hL1 hL2 hdv hf h hG hcap hs hl;have a1:(A1 != A1)=false:=(by simp);have a2:(A2 != A2)=false:=(by simp);have a3:(C != C)=false:=(by simp);have a4:(A1==A1)=true:=(by simp);have s1:(S != S)=false:=(by simp);go_enter (sf 5 f5),ntmps5;go_upto_region 1 with fail;(try rw[hW]);clear hW;go_upto_region 3 with(go_at_call 7;(with_reducible refine(HF.out _ hBw).mono ?_);rintro e W1 ⟨rfl,hB1⟩;replace k0:=qb _ hB1 k0;replace k1:=qb _ hB1 k1;replace k2:=qb _ hB1 k2;replace k3:=qb _ hB1 k3;replace k4:=qb _ hB1 k4;replace hBw:=bcl hBw hB1;clear hB1);go_upto_region 4 with(go_at_call 23;(with_reducible refine(P1.out _ hBw).mono ?_);rintro e W2 ⟨hB1,u1,c1,rfl,hc1,hu1⟩;replace k0:=qb _ hB1 k0;replace k1:=qb _ hB1 k1;replace k2:=qb _ hB1 k2;replace k3:=qb _ hB1 k3;replace k4:=qb _ hB1 k4;replace hBw:=bcl hBw hB1;clear hB1);go_upto_region 5 with(go_at_call 24;(with_reducible refine(P2.out _ hBw).mono ?_);rintro e W3 ⟨hB1,u2,c2,rfl,hc2,hu2⟩;replace hu1:=hu1.keep hB1;replace k0:=qb _ hB1 k0;replace k1:=qb _ hB1 k1;replace k2:=qb _ hB1 k2;replace k3:=qb _ hB1 k3;replace k4:=qb _ hB1 k4;replace hBw:=bcl hBw hB1;clear hB1);have hsn:=fun V (hB:Below W3.heap.size W3 V)=>xC u1 u2 c1 c2 L1 L1 V (hu1.keep hB) (hu2.keep hB) HLL.out.1 HLL.out.1 hc1 hc2
   rw[show decide (L1=L1)=true by simp]at hsn;have HSN:=qd hsn;clear hsn hu1 hu2 hc1 hc2;refine wp_region_held_drew (S:=(RHL [(⟨w.heap.size,0,none⟩,.slice D.ta D.ts.length D.tc),(⟨w.heap.size,1,none⟩,.slice D.ga D.gs.length D.gc),(⟨w.heap.size,2,none⟩,.slice D.oa D.os.length D.oc),(⟨w.heap.size,3,none⟩,.slice D.ha D.hs.length D.hc),(⟨w.heap.size,4,none⟩,.slice D.ca D.cs.length D.cc)] W3)) (by kernel_rfl) (by exact RHL.drew ⟨k0,k1,k2,k3,k4,Below.refl _ _⟩) (fun hHeld=>?_);refine tk 0 ?_;(refine tk 2 ?_;try simp only[zs,Act.put]);refine tkR 1 fun K hK=>?_;go_simp;go_wp2_with (go_at_call 25;(with_reducible refine(C1.out _ (bcl hBw (RHL.bel hHeld))).mono ?_);rintro e V1 ⟨rfl,hB1⟩);refine hK.out _ _ (by exact RHL.call hHeld hB1) (fun hHeldN=>?_);clear hK K hHeld;have hHeld:=hHeldN;clear hHeldN;(try simp only[zs,Act.put]);refine tkR 3 fun K hK=>?_;go_simp;go_wp2_with (go_at_call 26;(with_reducible refine(C2.out _ (bcl hBw (RHL.bel hHeld))).mono ?_);rintro e V1 ⟨rfl,hB1⟩);refine hK.out _ _ (by exact RHL.call hHeld hB1) (fun hHeldN=>?_);clear hK K hHeld;have hHeld:=hHeldN;clear hHeldN;(try simp only[zs,Act.put]);refine tk 4 ?_;refine tk 5 ?_;refine tk 6 ?_;(refine tk 7 ?_;try simp only[zs,Act.put]);refine tkR 8 fun K hK=>?_;go_simp;go_wp2_with (go_at_call 11;(with_reducible refine(HSN.out _ (RHL.bel hHeld)).mono ?_);rintro e V1 ⟨rfl,hB1⟩);refine hK.out _ _ (by exact RHL.call hHeld hB1) (fun hHeldN=>?_);clear hK K hHeld;have hHeld:=hHeldN;clear hHeldN;(try simp only[zs,Act.put]);refine tk 9 ?_
   refine tk 10 ?_;refine tk 11 ?_;refine tk 12 ?_;refine tk 13 ?_;refine tk 14 ?_;(refine tk 15 ?_;try simp only[zs,Act.put]);refine wpAnyH_done (by kernel_rfl) ?_ _;(try simp only[zs,Act.put]);have hBz:=bcl hBw (RHL.bel hHeld);obtain⟨q0,q1,q2,q3,q4,-⟩:=hHeld;replace hBw:=hBz;replace k0:=q0;replace k1:=q1;replace k2:=q2;replace k3:=q3;replace k4:=q4;clear q0 q1 q2 q3 q4 hBz HSN;go_upto_region 8 with(go_at_call 27;(with_reducible refine(H1.out _ hBw).mono ?_);rintro e W4 ⟨rfl,hB1⟩;replace k0:=qb _ hB1 k0;replace k1:=qb _ hB1 k1;replace k2:=qb _ hB1 k2;replace k3:=qb _ hB1 k3;replace k4:=qb _ hB1 k4;replace hBw:=bcl hBw hB1;clear hB1);go_upto_region 9 with(go_at_call 28;(with_reducible refine(H2.out _ hBw).mono ?_);rintro e W5 ⟨rfl,hB1⟩;replace k0:=qb _ hB1 k0;replace k1:=qb _ hB1 k1;replace k2:=qb _ hB1 k2;replace k3:=qb _ hB1 k3;replace k4:=qb _ hB1 k4;replace hBw:=bcl hBw hB1;clear hB1);go_upto_region 12 with(go_at_call 29;(with_reducible refine(T1.out _ hBw).mono ?_);rintro e W6 ⟨hB1,u1,c1,rfl,hc1,hu1⟩;replace k0:=qb _ hB1 k0;replace k1:=qb _ hB1 k1;replace k2:=qb _ hB1 k2;replace k3:=qb _ hB1 k3;replace k4:=qb _ hB1 k4;replace hBw:=bcl hBw hB1;clear hB1);go_upto_region 13 with(go_at_call 30;(with_reducible refine(T2.out _ hBw).mono ?_);rintro e W7 ⟨hB1,u2,c2,rfl,hc2,hu2⟩;replace hu1:=hu1.keep hB1;replace k0:=qb _ hB1 k0;replace k1:=qb _ hB1 k1;replace k2:=qb _ hB1 k2;replace k3:=qb _ hB1 k3;replace k4:=qb _ hB1 k4;replace hBw:=bcl hBw hB1;clear hB1);have hsn:=xC u1 u2 c1 c2 L2 L2 _ hu1 hu2 HLL.out.2 HLL.out.2 hc1 hc2
   rw[show decide (L2=L2)=true by simp]at hsn;have HSN:=qd hsn;clear hsn hu1 hu2 hc1 hc2 HLL k0 k1 k2 k3 k4;go_wp2_with (first|(go_at_call 11;(with_reducible refine HSN.out.mono ?_);rintro e W8 ⟨rfl,hB1⟩;replace hBw:=bcl hBw hB1;clear hB1)|(go_at_call 8;(with_reducible refine(HRO.out _ hBw).mono ?_);rintro e W9 ⟨rfl,hB2⟩));go_ret;rfl
end Go.Proofs.Tryz
