/-
  Lemmas about the program and the machine (Q32 to Q39), upon which the last text of this claim rests; no condition.
-/
import Derived.Test.YtjkbbnphdbgjiaaGreatDoorE09
set_option linter.unusedSimpArgs false
set_option linter.unusedVariables false
set_option maxRecDepth 100000
set_option maxHeartbeats 4000000
namespace Go.Proofs.Tryz
open Go Go.Load Go.LoadR Go.RowKit
theorem qcs(D:DayM)(s:SetM)(took:List WayM)(c:CalM):∀n k,(yR D s took c n k).1<(k+n:Nat)/\-1<=(yR D s took c n k).1
 | 0,k=>by unfold yR;simp only;omega
 | n+1,k=>by
   unfold yR;split
   ·have:=qcs D s took c n (k+1);omega
   ·simp only;omega
theorem qaw(D:DayM)(s:SetM):∀(cs:List CalM) (i:Nat) (took:List WayM) (k:Nat) (r:Int) (c:CalM),(yn D s i took cs)[k]? = some r->cs[k]? = some c->r<(qK D c).ws.length/\-2<=r
 | [],i,took,k,r,c,h,hc=>by simp at hc
 | x::cs,i,took,0,r,c,h,hc=>by
   obtain rfl:x=c:=(by simpa using hc);rw[yn]at h;obtain rfl:(ZK D s i took x).1=r:=(by simpa using h);unfold ZK;split
   ·simp only;omega
   ·have:=qcs D s took x (qK D x).ws.length 0;omega
 | x::cs,i,took,k+1,r,c,h,hc=>by
   rw[yn]at h;exact qaw D s cs (i+1) _ k r c (by simpa using h) (by simpa using hc)
theorem Zf(D:DayM)(s:SetM){k:Nat}{r:Int}{c:CalM}(h:(qD D s)[k]? = some r)(hc:D.cs[k]? = some c):r<(qK D c).ws.length/\-2<=r:=qaw D s D.cs 0 [] k r c h hc
def ZM(D:DayM)(c:CalM)(r:Int):WayM:=if r<0 then Za else(qK D c).ws.getD r.toNat Za
def xx(D:DayM)(R:List Int):List WayM:=(D.cs.zip R).map fun x=>ZM D x.1 x.2
theorem qaH{D:DayM}{R:List Int}{k:Nat}{r:Int}{c:CalM}(h:R[k]? = some r)(hc:D.cs[k]? = some c):(xx D R)[k]? = some (ZM D c r):=by
 unfold xx;rw[List.getElem?_map,List.getElem?_zip_eq_some.2 (show D.cs[k]? = some (c,r).1/\R[k]? = some (c,r).2 from⟨hc,h⟩)];rfl
theorem Zm{D:DayM}{R:List Int}(h:R.length=D.cs.length):(xx D R).length=D.cs.length:=by unfold xx;rw[List.length_map,List.length_zip,h,Nat.min_self]
theorem YY(D:DayM)(c:CalM)(x:WayM)(hx:x∈(qK D c).ws):∃o∈D.os,x∈o.ws:=by
 unfold qK at hx
 cases hf:D.os.find? (yC c)with
 | none=>rw[hf]at hx;cases hx
 | some o=>rw[hf]at hx;exact⟨o,List.mem_of_find?_eq_some hf,hx⟩
theorem tookW_or(D:DayM)(c:CalM)(r:Int):ZM D c r=Za\/∃o∈D.os,ZM D c r∈o.ws:=by
 unfold ZM;split
 ·exact .inl rfl
 ·rw[List.getD_eq_getElem?_getD]
  cases e:(qK D c).ws[r.toNat]? with
  | none=>exact .inl rfl
  | some x=>exact .inr (by simpa using YY D c x (qI e))
theorem qcy{D:DayM}{R:List Int}{x:WayM}(h:x∈xx D R):x=Za\/∃o∈D.os,x∈o.ws:=by
 obtain⟨y,_,rfl⟩:=List.mem_map.1 h;exact tookW_or D y.1 y.2
theorem qi.nil{α:Type}(w:World)(k:Nat)(enc:α->List Value)(a:Option Addr):qi w k enc a []:=fun h=>by simp at h
def qbh(D:DayM)(g:Nat)(t:Int)(p:PastM):Int:=YU D p (xx D (qD D (setOf p))) g t
theorem infoWay:(qp.info? 31).map (fun i=>(i.zero,i.size,i.bytes))=some (some (.slice none 0 0),1,24):=by kernel_rfl
theorem qbN(x:WayM):∀u∈[wvW x],u.oneCell'=true:=by intro u hu;simp at hu;subst hu;rfl
theorem jU{w:World}{base:Nat}{e:TypeId}{v:Value}{n:Nat}{l:List WayM}(h:w.ownsRow base e 1 v n (l.map wvW)):∃a c,v=.slice a n c/\n<=c/\qi w 1 xu a l:=by
 obtain⟨a,c,e,hl,r⟩:=Zd h;refine⟨a,c,e,hl,fun hn=>?_⟩;obtain⟨x,hx⟩:∃x,l[0]? = some x:=⟨l[0],by simp⟩;obtain⟨g,rfl,_⟩:=r 0 (wvW x) (by simp[hx]);refine⟨g,0,rfl,fun i y hy j v hv=>?_⟩;obtain⟨g',e',h'⟩:=r i (wvW y) (by simp[hy]);cases e'
 cases j with
 | zero=>simp[xu]at hv;subst hv;simpa[wvW]using h'
 | succ j=>simp[xu]at hv
theorem Yu{D:DayM}{c:CalM}(h:0<(qK D c).ws.length):qK D c∈D.os:=by
 unfold qK at h⊢
 cases hf:D.os.find? (yC c)with
 | none=>rw[hf]at h;simp at h
 | some o=>exact List.mem_of_find?_eq_some hf
theorem qeC(D:DayM)(M:Nat)(A:Nat->Prop)(w0 w:World)(h:St D M A w0 w)(hA:∀b,A b->b<w.heap.size)(db gb tb:Nat)(hd:B6 w db (.slice D.ta D.ts.length D.tc) (.slice D.ga D.gs.length D.gc) (.slice D.oa D.os.length D.oc) (.slice D.ha D.hs.length D.hc) (.slice D.ca D.cs.length D.cc) (.map (some M)))
 (g:Nat) (hg4:g<4) (t:Int) (hgc:w.cell? ⟨gb,0,none⟩=some (.int .i64 g)) (htc:w.cell? ⟨tb,0,none⟩=some (.int .i64 t)) (p:PastM) (hp:p.ok) :
 Calls qp 58 #[pvP p,pt db,pt gb,pt tb] w fun e w'=>e=.returned (.int .i64 (qbh D g t p))/\St D M A w0 w'/\w.grownBy w' (some M):=by
 have hpl:=fun W (hS:St D M A w0 W) (hg:w.grownBy W (some M))=>QK hS (setOf p) (by simp[setOf]) hp (by simp[setOf]) (fun b hb=>Nat.lt_of_lt_of_le (hA b hb) hg.size);have hlen:(qD D (setOf p)).length=D.cs.length:=qH _ _;have hRl:=fun(k:Nat) (r:Int) (c:CalM) (h1:(qD D (setOf p))[k]? = some r) (h2:D.cs[k]? = some c)=>Zf D (setOf p) h1 h2;have hcl:=h.ok.cs;have has:=fun W=>zX p W;have hml:=h.kn.lt;unfold qbh
 generalize qD D (setOf p)=R at *
 generalize setOf p=s at *
 obtain⟨sv,hsv⟩:∃sv,zf s=sv:=⟨_,rfl⟩;rw[hsv]at has;simp only[hsv]at hpl;have HP:=qd hpl;have HAS:=qd has;have HST:=qd h;have HRL:=qd hRl;have HOK:=qd hp;clear hpl has h hA hp hRl;unfold dm at HP;unfold pvP at HAS⊢;obtain⟨pa,pb,pc,pd⟩:=p;simp only at HAS;have hdl:=hd.lt;have hgl:=lt_of_cell hgc;have htl:=lt_of_cell htc;simp only at hgl htl;have HD:=qd hd;obtain⟨d0,d1,d2,d3,d4,d5⟩:=hd;go_enter (sf 58 f58),ntmps58;go_upto_region 2 with fail;obtain⟨W,hW⟩:∃W,w.alloc (Obj.cells #[.int .i64 pa,.int .i64 pb,.int .i64 pc,.int .i64 pd] 81)=W:=⟨_,rfl⟩;have hBW:Below w.heap.size w W:=by subst hW;go_grown
 have hS:RG10 D M A w0 W ⟨db,0,none⟩ ⟨db,1,none⟩ ⟨db,2,none⟩ ⟨db,3,none⟩ ⟨db,4,none⟩ ⟨db,5,none⟩ ⟨w.heap.size,0,none⟩ ⟨w.heap.size,1,none⟩ ⟨w.heap.size,2,none⟩ ⟨w.heap.size,3,none⟩ (.slice D.ta D.ts.length D.tc) (.slice D.ga D.gs.length D.gc) (.slice D.oa D.os.length D.oc) (.slice D.ha D.hs.length D.hc) (.slice D.ca D.cs.length D.cc) (.map (some M)) (.int .i64 pa) (.int .i64 pb) (.int .i64 pc) (.int .i64 pd) W:=by
  subst hW;exact⟨by go_cell,by go_cell,by go_cell,by go_cell,by go_cell,by go_cell,by go_cell,by go_cell,by go_cell,by go_cell,HST.out.keep hBW,qo (Below.refl _ _)⟩
 rw[hW];clear hW;refine wp_region_held_drew (S:=(RG10 D M A w0 W ⟨db,0,none⟩ ⟨db,1,none⟩ ⟨db,2,none⟩ ⟨db,3,none⟩ ⟨db,4,none⟩ ⟨db,5,none⟩ ⟨w.heap.size,0,none⟩ ⟨w.heap.size,1,none⟩ ⟨w.heap.size,2,none⟩ ⟨w.heap.size,3,none⟩ (.slice D.ta D.ts.length D.tc) (.slice D.ga D.gs.length D.gc) (.slice D.oa D.os.length D.oc) (.slice D.ha D.hs.length D.hc) (.slice D.ca D.cs.length D.cc) (.map (some M)) (.int .i64 pa) (.int .i64 pb) (.int .i64 pc) (.int .i64 pd))) (by kernel_rfl) (by exact RGL.drew hS) (fun hHeld=>?_);refine tk 0 ?_;refine tk 1 ?_;(refine tk 5 ?_;try simp only[zs,Act.put]);refine tkR 2 fun K hK=>?_;go_simp;go_wp2_with (go_at_call 48;(with_reducible refine(HAS.out _).mono ?_);rintro e w1 ⟨rfl,hB1⟩);refine hK.out _ _ (by exact RGL.call hHeld hB1) (fun hHeldN=>?_);clear hK K hHeld;have hHeld:=hHeldN;clear hHeldN;try simp only[zs,Act.put]
 refine tkR 3 fun K hK=>?_;go_simp;go_wp2_with (go_at_call 47;(with_reducible refine(HP.out _ (RGL.st hHeld) (qw (qo hBW) (RGL.gr hHeld))).mono ?_);rintro e V ⟨a,c,rfl,hlc,hrow,hst1,hg1⟩);refine hK.out _ _ (by exact RGL.play hHeld hst1 hg1) (fun hHeldN=>?_);clear hK K hHeld;have hHeld:=hHeldN;clear hHeldN;try simp only[zs,Act.put]
 (refine tk 4 ?_;try simp only[zs,Act.put]);refine wpAnyH_done (by kernel_rfl) ?_ _;try simp only[zs,Act.put]
 have hgf:=qw (qo hBW) (RGL.gr hHeld);obtain⟨e0,e1,e2,e3,e4,e5,p0,p1,p2,p3,-,-⟩:=id hHeld;have hst:=RGL.st hHeld;have hgV:=HST.out.cell hgf hgc;have htV:=HST.out.cell hgf htc;have hzV:w.heap.size<V.heap.size:=by have:=lt_of_cell p0;simpa using this
 have HPB:=qd (qg p0 (qg p1 (qg p2 (qg p3 (qg hgV htV)))));have HE:=qd (show B6 V db (.slice D.ta D.ts.length D.tc) (.slice D.ga D.gs.length D.gc) (.slice D.oa D.os.length D.oc) (.slice D.ha D.hs.length D.hc) (.slice D.ca D.cs.length D.cc) (.map (some M))from⟨e0,e1,e2,e3,e4,e5⟩);have HR:=qd hrow;have HV:=qd (qg hst hgf);obtain⟨i0,hi,hz0,hz1,hz2⟩:=info_parts infoWay;clear hrow hst hst1 hg1 hgf hHeld hS p0 p1 p2 p3 hgV htV e0 e1 e2 e3 e4 e5 hB1 d0 d1 d2 d3 d4 d5 HD hgc htc;go_wp2;go_loopw [15,6] (fun i u wr=>∃(k:Nat) (q:Value),i=.int .i64 k/\q=u/\k<=R.length/\Hid (Below V.heap.size V wr)/\Hid (wr.ownsRow V.heap.size 31 1 q k (((xx D R).take k).map wvW))) (fun i _ _=>R.length-(intOf i).toNat);case atStart=>exact⟨0,_,rfl,rfl,Nat.zero_le _,qd (Below.refl _ _),qd (World.ownsRow_nil _ _ _ _)⟩
 case round =>
  obtain⟨k,q,rfl,rfl,hk,HB,HO⟩:=hrel;have hsV:=HB.out.size;by_cases hlt:k<R.length
  ·obtain⟨b,o,rfl,hP⟩:=HR.out (by omega);obtain⟨r,hr⟩:∃r,R[k]? = some r:=⟨R[k],by simp[hlt]⟩;obtain⟨y,hy⟩:∃y,D.cs[k]? = some y:=⟨D.cs[k]'(by omega),by simp⟩;have c0:=qb _ HB.out (hP k r hr 0 _ rfl);simp only[Nat.mul_one,Nat.add_zero]at c0;have hk0:(0:Int)<=(k:Int):=Int.natCast_nonneg k;have hkc:(k:Int)<=(c:Int):=(by omega);have hkl:(k:Int)<(D.cs.length:Int):=(by omega);have hkd:(k:Int)<=(D.cc:Int):=(by have:=HV.out.1.sm.cs.2;omega);obtain⟨hrl,hr2⟩:=HRL.out k r y hr hy;have HX:=qd (qg hr hy);have hT:(xx D R)[k]? = some (ZM D y r):=qaH hr hy;have HT:=qd hT;clear hP hr hT;by_cases hneg:r<0
   ·have hb:¬0<=r:=(by omega);go_wp2_with (at_builtin;refine wpList_append_own_at _ rfl (.tmp 33) (.tmp 35) 45 rfl V.heap.size 31 i0 (.slice none 0 0) 1 24 ((qF _).trans Tryz.underlying45) hi hz0 hz1 hz2 rfl (by decide) _ _ _ rfl (HO.out.alloc _) ⟨wr.heap.size,0,none⟩ 1 1 [.slice none 0 0] rfl rfl (cell_one_new _ _ _) (qbN Za) (by unfold maxLen;omega) (by omega) (by simp;omega) ?_;intro v1 w3 n1 g1 nil1 at1);have g2:(wr.alloc (.cells #[.slice none 0 0] 31)).grownBy w3 q.ownBlock:=g1;have hqb:∀j,q.ownBlock=some j->V.heap.size<=j:=fun j e=>(HO.out.lt j e).1;have hBn:Below V.heap.size V w3:=((HB.out.trans ((Below.refl _ wr).alloc (by have:=HB.out.size;omega) _)).grown g2 (by simp;omega) hqb);go_roundw
    case rel =>
     refine⟨k+1,v1,rfl,rfl,by omega,qd hBn,qd ?_⟩
     have e:((xx D R).take (k+1)).map wvW=((xx D R).take k).map wvW++[.slice none 0 0]:=by
      rw[List.take_add_one,HT.out,List.map_append];unfold ZM;rw[if_pos hneg];rfl
     rw[e];exact n1
    case measure=>simp[intOf];omega
   ·obtain⟨j,rfl⟩:=Int.eq_ofNat_of_zero_le (show 0<=r by omega);have hb:(0:Int)<=(j:Int):=Int.natCast_nonneg j;have hjl:(j:Int)<((qK D y).ws.length:Int):=hrl;have hoin:=Yu (D:=D) (c:=y) (by omega);have hjc:(j:Int)<=((qK D y).c:Int):=(by have:=(HV.out.1.sm.ws _ hoin).2;omega);obtain⟨x,hxj⟩:∃x,(qK D y).ws[j]? = some x:=⟨(qK D y).ws[j]'(by omega),by simp⟩;have HXJ:=qd hxj;have hcs:=(HV.out.1.keep HB.out).day.cs;obtain⟨cb,co,hca,hC⟩:=hcs (by show 1<=D.cs.length;omega);have y0:=hC k y hy 0 _ rfl;have y1:=hC k y hy 1 _ rfl;have y2:=hC k y hy 2 _ rfl;have y3:=hC k y hy 3 _ rfl;have y4:=hC k y hy 4 _ rfl;obtain⟨z0,z1,z2,z3,z4,z5⟩:=HE.out.keep HB.out;rw[hca]at z4;have hS:RH11 wr ⟨db,0,none⟩ ⟨db,1,none⟩ ⟨db,2,none⟩ ⟨db,3,none⟩ ⟨db,4,none⟩ ⟨db,5,none⟩ ⟨cb,co+k*5,none⟩ ⟨cb,co+k*5+1,none⟩ ⟨cb,co+k*5+2,none⟩ ⟨cb,co+k*5+3,none⟩ ⟨cb,co+k*5+4,none⟩ (.slice D.ta D.ts.length D.tc) (.slice D.ga D.gs.length D.gc) (.slice D.oa D.os.length D.oc) (.slice D.ha D.hs.length D.hc) (.slice (some ⟨cb,co,none⟩) D.cs.length D.cc) (.map (some M)) (.int .i64 y.fr) (.int .i64 y.toT) (.int .i64 y.co) (.int .i64 y.cl) (.int .i64 y.se) wr:=⟨z0,z1,z2,z3,z4,z5,y0,y1,y2,y3,y4,Below.refl _ _⟩;have hwo:=fun X (hX:Below wr.heap.size wr X)=>Qs D (some M) y X ((HV.out.1.keep HB.out).keep hX).day HV.out.1.sm;unfold dm cvC ZO at hwo;rw[hca]at hwo;have HWO:=qd hwo;clear hwo hC hcs y0 y1 y2 y3 y4 z0 z1 z2 z3 z4 z5 hxj hca;go_upto_region 7 with fail;refine wp_region_held_drew (S:=(RH11 wr ⟨db,0,none⟩ ⟨db,1,none⟩ ⟨db,2,none⟩ ⟨db,3,none⟩ ⟨db,4,none⟩ ⟨db,5,none⟩ ⟨cb,co+k*5,none⟩ ⟨cb,co+k*5+1,none⟩ ⟨cb,co+k*5+2,none⟩ ⟨cb,co+k*5+3,none⟩ ⟨cb,co+k*5+4,none⟩ (.slice D.ta D.ts.length D.tc) (.slice D.ga D.gs.length D.gc) (.slice D.oa D.os.length D.oc) (.slice D.ha D.hs.length D.hc) (.slice (some ⟨cb,co,none⟩) D.cs.length D.cc) (.map (some M)) (.int .i64 y.fr) (.int .i64 y.toT) (.int .i64 y.co) (.int .i64 y.cl) (.int .i64 y.se))) (by kernel_rfl) (by exact RHL.drew hS) (fun hHeld=>?_)
    refine tk 0 ?_;refine tk 1 ?_;refine tk 2 ?_;refine tk 3 ?_;refine tk 4 ?_;refine tk 5 ?_;refine tk 6 ?_;(refine tk 8 ?_;try simp only[zs,Act.put]);refine tkR 7 fun K hK=>?_;go_simp;go_wp2_with (go_at_call 59;(with_reducible refine(HWO.out _ (RHL.bel hHeld)).mono ?_);rintro e X ⟨rfl,hB7⟩);refine hK.out _ _ (by exact RHL.call hHeld hB7) (fun hHeldN=>?_);clear hK K hHeld;have hHeld:=hHeldN;clear hHeldN;(try simp only[zs,Act.put]);have hBr:=RHL.bel hHeld;obtain⟨wb,wo,hwa,hW2⟩:=(((HV.out.1.keep HB.out).keep hBr).day.ws _ hoin) (by omega);have c9:=hW2 j x HXJ.out 0 _ rfl;simp only[Nat.mul_one,Nat.add_zero]at c9;rw[hwa];clear hwa;(refine tk 9 ?_;try simp only[zs,Act.put]);(refine tkR 10 fun K hK=>?_;go_simp;refine hK.out _ _ (by exact hHeld) (fun hHeldN=>?_);clear hK K hHeld;have hHeld:=hHeldN;clear hHeldN;try simp only[zs,Act.put]);(refine tk 11 ?_;try simp only[zs,Act.put]);refine wpAnyH_done (by kernel_rfl) ?_ _;(try simp only[zs,Act.put]);have hBx:=Below.call HB.out hBr (by omega);have ow:=qV HO.out hBr;have hszX:=hBr.size;clear hW2 hS hHeld;go_wp2_with (at_builtin;refine wpList_append_own_at _ rfl (.tmp 33) (.tmp 35) 45 rfl V.heap.size 31 i0 (.slice none 0 0) 1 24 ((qF _).trans Tryz.underlying45) hi hz0 hz1 hz2 rfl (by decide) _ _ _ rfl (ow.alloc _) ⟨X.heap.size,0,none⟩ 1 1 [.slice x.a x.l.length x.c] rfl rfl (cell_one_new _ _ _) (qbN x) (by unfold maxLen;omega) (by omega) (by simp;omega) ?_;intro v1 w3 n1 g1 nil1 at1);have g2:(X.alloc (.cells #[.slice x.a x.l.length x.c] 31)).grownBy w3 q.ownBlock:=g1
    have hqb:∀j,q.ownBlock=some j->V.heap.size<=j:=fun j e=>(HO.out.lt j e).1;have hBn:Below V.heap.size V w3:=((hBx.trans ((Below.refl _ X).alloc (by have:=hBx.size;omega) _)).grown g2 (by simp;omega) hqb);go_roundw
    case rel =>
     have e:((xx D R).take (k+1)).map wvW=((xx D R).take k).map wvW++[.slice x.a x.l.length x.c]:=by
      rw[List.take_add_one,HT.out,List.map_append];unfold ZM;rw[if_neg (by omega)];simp[HXJ.out,wvW,List.getD_eq_getElem?_getD]
     refine⟨k+1,v1,rfl,rfl,by omega,qd hBn,qd (by rw[e];exact n1)⟩
    case measure=>simp[intOf];omega
  ·obtain rfl:k=R.length:=(by omega);have hO:=HO.out;rw[List.take_of_length_le (by rw[Zm hlen];omega)]at hO;obtain⟨ta,tc,rfl,htc,htr⟩:=jU hO;have hsm:=HV.out.1.sm;have hday:=(HV.out.1.keep HB.out).day
   have hfr:=qcf D (some M) ⟨pa,pb,pc,pd⟩ (xx D R) ta tc g hg4 t wr hday hsm ⟨by rw[Zm hlen];exact ql,hsm.cs.1,by rw[Zm hlen];omega,fun x hx=>by
    rcases qcy hx with rfl|⟨o,ho,hxo⟩
    ·exact⟨by decide,by decide⟩
    ·exact hsm.ls o ho x hxo,HV.out.1.ok.hs,HOK.out⟩ htr (fun x hx=>by
    rcases qcy hx with rfl|⟨o,ho,hxo⟩
    ·exact qi.nil _ _ _ _
    ·exact hday.ls o ho x hxo)
   unfold dm at hfr;rw[Zm hlen]at hfr;obtain⟨z0,z1,z2,z3,z4,z5⟩:=HE.out.keep HB.out;obtain⟨p0,p1,p2,p3,hgV,htV⟩:=HPB.out;have p0:=qb _ HB.out p0;have p1:=qb _ HB.out p1;have p2:=qb _ HB.out p2;have p3:=qb _ HB.out p3;have hgV:=qb _ HB.out hgV;have htV:=qb _ HB.out htV;clear hO htr hday hsm HO;go_wp2_with (go_at_call 60;(with_reducible refine hfr.mono ?_);rintro e w2 ⟨rfl,hB2⟩);go_ret;have hBf:=Below.call HB.out hB2 (by omega);exact⟨rfl,HV.out.1.keep hBf,qw HV.out.2 (qo hBf)⟩
def ZA(D:DayM)(g t:Int):Int:=if za g D.gs.length≠0 then za g D.gs.length else if btw t 0 99=false then 1 else 0
theorem qeB(D:DayM)(m:Option Nat)(gb tb:Nat)(g t:Int)(w:World)(hg:w.cell? ⟨gb,0,none⟩=some (.int .i64 g))(ht:w.cell? ⟨tb,0,none⟩=some (.int .i64 t))(hl:D.gs.length<=20) :
 Calls qp 55 #[dm D m,pt gb,pt tb] w fun e w'=>e=.returned (.int .i64 (ZA D g t))/\Below w.heap.size w w':=by
 have hix:=fun W=>jO g D.gs.length W (by omega) (by omega);have hti:=fun W=>ja t W;unfold dm ZA
 generalize Value.slice D.ta D.ts.length D.tc=x0 at *
 generalize Value.slice D.oa D.os.length D.oc=x2 at *
 generalize Value.slice D.ha D.hs.length D.hc=x3 at *
 generalize Value.slice D.ca D.cs.length D.cc=x4 at *
 have hgb:=lt_of_cell hg;have htb:=lt_of_cell ht;simp only at hgb htb
 generalize za g D.gs.length=r at *
 by_cases hr:r=0
 ·subst hr;rw[if_neg (by simp)];obtain⟨q,hq⟩:∃q,btw t 0 99=q:=⟨_,rfl⟩;rw[hq]at hti⊢;clear hq
  cases q with
  | true =>
    rw[if_neg (by simp)];go_enter (sf 55 f55),ntmps55;go_wp2_with (first|(go_at_call 44;(with_reducible refine(hix _).mono ?_);rintro e w1 ⟨rfl,rfl⟩)|(go_at_call 56;(with_reducible refine(hti _).mono ?_);rintro e w1 ⟨rfl,rfl⟩));go_ret;exact⟨rfl,by go_grown⟩
  | false =>
    rw[if_pos rfl];go_enter (sf 55 f55),ntmps55;go_wp2_with (first|(go_at_call 44;(with_reducible refine(hix _).mono ?_);rintro e w1 ⟨rfl,rfl⟩)|(go_at_call 56;(with_reducible refine(hti _).mono ?_);rintro e w1 ⟨rfl,rfl⟩));go_ret;exact⟨rfl,by go_grown⟩
 ·rw[if_pos hr];have hb:(r != 0)=true:=by simpa using hr
  clear hr;go_enter (sf 55 f55),ntmps55;go_wp2_with (go_at_call 44;(with_reducible refine(hix _).mono ?_);rintro e w1 ⟨rfl,rfl⟩);go_ret;exact⟨rfl,by go_grown⟩
abbrev JX(D:DayM)(g:Nat)(t:Int):List Int:=qN ((qx D).map fun p=>qbh D g t p)
theorem Jl(D:DayM)(w:World)(h:DayAt w D)(hs:DaySm D)(hG:Globs w)(g t:Int):Calls qp 14 #[dv D,.int .i64 g,.int .i64 t] w (qcH (zt D (ZA D g t)) (JX D g.toNat t) w):=by
 obtain⟨W,hW⟩:∃W,(((w.alloc (Obj.cells #[.slice D.ta D.ts.length D.tc,.slice D.ga D.gs.length D.gc,.slice D.oa D.os.length D.oc,.slice D.ha D.hs.length D.hc,.slice D.ca D.cs.length D.cc] 28)).alloc (Obj.cells #[.int .i64 g] 3)).alloc (Obj.cells #[.int .i64 t] 3)).alloc (Obj.cells #[.int .i64 0,.int .i64 0] 40)=W:=⟨_,rfl⟩;have hBW:Below w.heap.size w W:=by subst hW;go_grown
 have hsW:W.heap.size=w.heap.size+4:=by subst hW;simp
 have k0:W.cell? ⟨w.heap.size,0,none⟩=some (.slice D.ta D.ts.length D.tc):=by subst hW;go_cell
 have k1:W.cell? ⟨w.heap.size,1,none⟩=some (.slice D.ga D.gs.length D.gc):=by subst hW;go_cell
 have k2:W.cell? ⟨w.heap.size,2,none⟩=some (.slice D.oa D.os.length D.oc):=by subst hW;go_cell
 have k3:W.cell? ⟨w.heap.size,3,none⟩=some (.slice D.ha D.hs.length D.hc):=by subst hW;go_cell
 have k4:W.cell? ⟨w.heap.size,4,none⟩=some (.slice D.ca D.cs.length D.cc):=by subst hW;go_cell
 have kg:W.cell? ⟨w.heap.size+1,0,none⟩=some (.int .i64 g):=by subst hW;go_cell
 have kt:W.cell? ⟨w.heap.size+1+1,0,none⟩=some (.int .i64 t):=by subst hW;go_cell
 have b0:W.cell? ⟨w.heap.size+1+1+1,0,none⟩=some (.int .i64 0):=by subst hW;go_cell
 have b1:W.cell? ⟨w.heap.size+1+1+1,1,none⟩=some (.int .i64 0):=by subst hW;go_cell
 have g0:W.frozen? ⟨w.heap.size+1+1+1,0,none⟩=false:=by subst hW;go_cell
 have g1:W.frozen? ⟨w.heap.size+1+1+1,1,none⟩=false:=by subst hW;go_cell
 have hask:=yF D W (h.keep hBW) hs (hG.keep hBW) 55 #[pt (w.heap.size+1),pt (w.heap.size+1+1)] (cE 55 (by decide +kernel)) (ZA D g t) (fun M V hM hB=>qeB D (some M) _ _ g t V (qb _ hB kg) (qb _ hB kt) hs.gs.1);have hdv:dv D=.agg #[.slice D.ta D.ts.length D.tc,.slice D.ga D.gs.length D.gc,.slice D.oa D.os.length D.oc,.slice D.ha D.hs.length D.hc,.slice D.ca D.cs.length D.cc]:=rfl;rw[hdv]at hask⊢;have HD:=qd (qg h hs);unfold qcH;clear h hs hG hdv;obtain⟨al,hal⟩:∃al,ZA D g t=al:=⟨_,rfl⟩;rw[hal]at hask⊢;by_cases ha:zt D al=0
 ·have hz:=yj ha
  have hix:0<=g/\g<D.gs.length:=by
   have h1:=hz.2;rw[<-hal]at h1;unfold ZA at h1;by_cases h2:za g D.gs.length=0
   ·exact Qg h2
   ·rw[if_pos h2]at h1;exact absurd h1 h2
  have hok:=hask.mono (fun e w' h=>h.ok ha);have HA:=qd ha;have HZ:=qd hz.1;clear hask ha hz hal;obtain⟨k,rfl⟩:=Int.eq_ofNat_of_zero_le hix.1;have hk4:k<4:=by have:=(qY D HZ.out).gs;omega
  go_enter (sf 14 f14),ntmps14;go_upto_region 1 with fail;try rw[hW]
  clear hW;unfold dm at hok;go_upto_region 4 with(go_at_call 42;(with_reducible refine hok.mono ?_);rintro e w1 ⟨M,a,c,rfl,hpos,hlc,hrow,hfr,hst⟩;have hs1:=hst.bel.size);have hBV:=(Below.refl w1.heap.size w1).alloc ql (Obj.cells #[.slice D.ta D.ts.length D.tc,.slice D.ga D.gs.length D.gc,.slice D.oa D.os.length D.oc,.slice D.ha D.hs.length D.hc,.slice D.ca D.cs.length D.cc,.map (some M)] 73);have h7:=B6.new w1 (.slice D.ta D.ts.length D.tc) (.slice D.ga D.gs.length D.gc) (.slice D.oa D.os.length D.oc) (.slice D.ha D.hs.length D.hc) (.slice D.ca D.cs.length D.cc) (.map (some M)) 73;have hML:=hst.kn.lt;obtain⟨T,hT⟩:∃T,w1.heap.size=T:=⟨_,rfl⟩;obtain⟨V,hV⟩:∃V,w1.alloc (Obj.cells #[.slice D.ta D.ts.length D.tc,.slice D.ga D.gs.length D.gc,.slice D.oa D.os.length D.oc,.slice D.ha D.hs.length D.hc,.slice D.ca D.cs.length D.cc,.map (some M)] 73)=V:=⟨_,rfl⟩;rw[hV]at h7 hBV⊢;have hsV:=hst.keep hBV;have hrV:=hrow.keep hBV;rw[hT]at h7 hML⊢;have kgV:=qb _ hsV.bel kg;have ktV:=qb _ hsV.bel kt;have hga:=Qc D M (fun _=>False) W V hsV (fun b hb=>hb.elim) 58 #[pt T,pt (w.heap.size+1),pt (w.heap.size+1+1)] (cE 58 (by decide +kernel)) (fun p=>qbh D k t p) (qx D) a c hpos (by have:=zb HZ.out;omega) hlc hrV (fun x hx A V2 hS hA hg=>qeC D M A W V2 hS hA T (w.heap.size+1) (w.heap.size+1+1) (h7.mod (Mod.grown hg (fun b e=>(qz e).symm)) (show ¬T=M by omega)) k hk4 t (hsV.cell hg kgV) (hsV.cell hg ktV) x (Qk HZ.out x hx));have hll:1<=(JX D k t).length/\(JX D k t).length<=1000:=⟨jl (by rw[List.length_map];exact hpos),by have:=zb HZ.out;have h9:=Qb ((qx D).map fun p=>qbh D k t p);rw[List.length_map]at h9;exact Nat.le_trans h9 (by omega)⟩
  have HF:=qd (qg hBW hsV);clear h7 hBV hV hrow hrV hst hok hfr k0 k1 k2 k3 k4 kg kt kgV ktV;go_wp2_with (first|(go_at_call 45;(with_reducible refine hga.mono ?_);rintro e w2 ⟨a2,c2,rfl,hl2,hr2,hf2,hst2,hg2⟩)|(go_at_call 57;(with_reducible refine(XA (JX D k t) a2 c2 hll.1 hl2 hll.2 _ hr2).mono ?_);rintro e w3 ⟨rfl,hB3⟩;have hB4:=Below.call hst2.bel hB3 (by have:=hst2.bel.size;omega);have c0:=qb _ hB4 b0;have c1:=qb _ hB4 b1;have f0:=qf _ hB4 b0 g0;have f1:=qf _ hB4 b1 g1));refine LoadR.ret_ct2 results14 jY je rfl rfl c0 c1 ⟨?_,.inr ⟨HA.out,rfl⟩⟩;exact LoadR.Below.set2 (Below.call HF.out.1 hB4 (by omega)) (by omega)
 ·have hbad:=hask.mono (fun e w' h=>h.bad ha);have hb:(zt D al != 0)=true:=by simpa using ha
  unfold dz at hbad;have HA:=qd ha;clear hask ha hal
  generalize zt D al=r at *
  go_enter (sf 14 f14),ntmps14;go_upto_region 1 with fail;try rw[hW]
  clear hW;go_upto_region 3 with(go_at_call 42;(with_reducible refine hbad.mono ?_);rintro e w1 ⟨rfl,hB1⟩;have hs1:=hB1.size);have hBV:=bcl hB1 ((Below.refl w1.heap.size w1).alloc ql (Obj.cells #[.slice none 0 0,.slice none 0 0,.slice none 0 0,.slice none 0 0,.slice none 0 0,.map none] 73));obtain⟨V,hV⟩:∃V,w1.alloc (Obj.cells #[.slice none 0 0,.slice none 0 0,.slice none 0 0,.slice none 0 0,.slice none 0 0,.map none] 73)=V:=⟨_,rfl⟩;rw[hV]at hBV⊢;clear hV hB1;have c0:=qb _ hBV b0;have c1:=qb _ hBV b1;have f0:=qf _ hBV b0 g0;have f1:=qf _ hBV b1 g1;go_wp2;refine LoadR.ret_ct2 results14 jY je rfl rfl c0 c1 ⟨?_,.inl ⟨HA.out,rfl⟩⟩;exact LoadR.Below.set2 (Below.call hBW hBV (by omega)) (by omega)
theorem make_int{w:World}{n:Nat}(hn:n<=1000):(Instr.makeSlice 31 (.int .i64 n) (.int .i64 n)).run qp w=.ok (.slice (some ⟨w.heap.size,0,none⟩) n n) (w.alloc (.cells (madeCells #[.int .i64 0] n) 3)):=by
 have hi:qp.info? 3=some ((Tryz.prog.info? 3).getD default):=by rw[qcx];kernel_rfl
 have hs:((Tryz.prog.info? 3).getD default).size=1:=by kernel_rfl
 have hby:((Tryz.prog.info? 3).getD default).bytes=8:=by kernel_rfl
 have hz:((Tryz.prog.info? 3).getD default).zero=some (.int .i64 0):=by kernel_rfl
 generalize(Tryz.prog.info? 3).getD default=inf at hi hs hby hz;have hr:=run_makeSlice (P:=qp) w 31 3 inf (.int .i64 0) (by rw[qF];exact Tryz.underlying31) hi hz .i64 .i64 (n:Int) n (by omega) (by omega) (by rw[hs];omega) (by rw[hby];omega) (by omega);rw[hs]at hr;simpa[Value.cells]using hr
def qcK(W:World)(s n:Nat)(L:List Int)(k:Nat):Prop:=∀i,i<n->∃x,W.cell? ⟨s,i,none⟩=some (.int .i64 x)/\W.frozen? ⟨s,i,none⟩=false/\(i<k->L[i]? = some x)
theorem qcK.keep{W w1:World}{s n k:Nat}{L:List Int}(h:qcK W s n L k)(hB:Below W.heap.size W w1):qcK w1 s n L k:=fun i hi =>
 let ⟨x,a,b,c⟩:=h i hi
 ⟨x,qb _ hB a,qf _ hB a b,c⟩
theorem qcK.set{W:World}{s n k:Nat}{L:List Int}{y:Int}(h:qcK W s n L k)(hk:k<n)(hy:L[k]? = some y):qcK (W.setCell ⟨s,k,none⟩ (.int .i64 y)) s n L (k+1):=fun i hi=>by
 obtain⟨x,a,b,c⟩:=h i hi;by_cases e:i=k
 ·subst e;exact⟨y,qA (qL a),by simpa using b,fun _=>hy⟩
 ·exact⟨x,qj a (.inr e),by simpa using b,fun h=>c (by omega)⟩
theorem qcK.made(w:World)(n:Nat)(L:List Int):qcK (w.alloc (.cells (madeCells #[.int .i64 0] n) 3)) w.heap.size n L 0:=fun i hi=>by
 have hs:(madeCells #[Value.int .i64 0] n).size=n:=size_madeCells _ _;refine⟨0,?_,?_,fun h=>by omega⟩
 ·have hb:(w.alloc (.cells (madeCells #[.int .i64 0] n) 3)).heap[w.heap.size]? = some (.cells (madeCells #[.int .i64 0] n) 3 (0,0)):=World.alloc_heap_new w _;unfold World.cell?;rw[hb]
  have:(madeCells #[Value.int .i64 0] n)[i]? = some (.int .i64 0):=by
   rw[Array.getElem?_eq_getElem (by omega)];simp[madeCells,Nat.mod_one]
  simpa using this
 ·have hb:(w.alloc (.cells (madeCells #[.int .i64 0] n) 3)).heap[w.heap.size]? = some (.cells (madeCells #[.int .i64 0] n) 3 (0,0)):=World.alloc_heap_new w _;unfold World.frozen?;rw[hb];simp
theorem qcK.rows{W:World}{s:Nat}{L:List Int}(h:qcK W s L.length L L.length):qi W 1 encI (some ⟨s,0,none⟩) L:=fun _=>⟨s,0,rfl,fun i x hx j v hv=>by
 have hi:=(qB hx).1;obtain⟨y,a,b,c⟩:=h i hi;rw[hx]at c;have:=c hi;cases this
 cases j with
 | zero=>simp[encI]at hv;subst hv;simpa using a
 | succ j=>simp[encI]at hv⟩
def Qx(n:Nat):List Int:=(List.range n).map fun(k:Nat)=>(k:Int)
theorem yL(n:Nat):(Qx n).length=n:=by unfold Qx;simp
theorem Xm{n k:Nat}(h:k<n):(Qx n)[k]? = some (k:Int):=by unfold Qx;simp[h]
theorem qcA(n:Nat)(hn:n<=20)(w:World):Calls qp 70 #[.int .i64 n] w fun e w'=>e=.returned (.slice (some ⟨w.heap.size,0,none⟩) n n)/\qi w' 1 encI (some ⟨w.heap.size,0,none⟩) (Qx n)/\Below w.heap.size w w':=by
 have hmk:=make_int (w:=w) (n:=n) (by omega);have hro:=qcK.made w n (Qx n);have hBW:=(Below.refl w.heap.size w).alloc ql (.cells (madeCells #[.int .i64 0] n) 3);obtain⟨W,hW⟩:∃W,w.alloc (.cells (madeCells #[.int .i64 0] n) 3)=W:=⟨_,rfl⟩;rw[hW]at hmk hro hBW;have HRO:=qd hro;have HBW:=qd hBW;clear hro hBW hW;go_enter (sf 70 f70),ntmps70;go_wp2;go_loopw [8] (fun i wr=>∃k:Nat,i=.int .i64 k/\k<=n/\Hid (qcK wr w.heap.size n (Qx n) k)/\Hid (Below w.heap.size w wr)) (fun i _=>n-(intOf i).toNat);case atStart=>exact⟨0,rfl,Nat.zero_le _,HRO,HBW⟩
 case round =>
  obtain⟨k,rfl,hk,HR,HB⟩:=hrel;by_cases hlt:k<n
  ·obtain⟨x,c0,f0,-⟩:=HR.out k hlt;have hk0:(0:Int)<=(k:Int):=Int.natCast_nonneg k;have hkn:(k:Int)<(n:Int):=(by omega);go_wp2;go_roundw;(case rel=>exact⟨k+1,rfl,by omega,qd (HR.out.set hlt (Xm hlt)),qd (HB.out.setCell (p:=⟨w.heap.size,k,none⟩) ql _)⟩);case measure=>simp[intOf];omega
  ·obtain rfl:k=n:=(by omega);go_wp2;go_ret;exact⟨rfl,by have h:=HR.out;have e:=yL k;exact(qcK.rows (L:=Qx k) (by rw[e];exact h)),HB.out⟩
def XC(f:Int->Int):Nat->Int×Int->List Int->Int×Int
 | _,kb,[]=>kb
 | i,kb,x::l=>XC f (i+1) (if f x<kb.2 then(i,f x)else kb) l
def qeb(f:Int->Int)(l:List Int)(b:Int):Int×Int:=XC f 0 (-1,b) l
theorem qbW(fid:FuncId)(bound:Array Value)(hf:∀(args:Array Value) (w:World),(callFunc fid args).run qp w=.ok (.enter fid args) w)(f:Int->Int)(l:List Int)(a:Option Addr)(c:Nat)(b0:Int)(hlen:l.length<=1000)(hlc:l.length<=c)(I:World->Prop)(hI:∀W,I W->qi W 1 encI a l)(w:World)(hw:I w)
 (hcall:∀(i:Nat) (x:Int),l[i]? = some x->∀W,I W->Calls qp fid (#[.int .i64 x]++bound) W fun e w'=>e=.returned (.int .i64 (f x))/\I w') :
 Calls qp 69 #[.slice a l.length c,.int .i64 b0,.func (.func fid) #[] bound] w fun e w'=>e=.returned (.tuple #[.int .i64 (qeb f l b0).1,.int .i64 (qeb f l b0).2])/\I w':=by
 obtain⟨R,hR⟩:∃R,qeb f l b0=R:=⟨_,rfl⟩;rw[hR];have HR:Hid (XC f 0 (-1,b0) (l.drop 0)=R):=qd hR;clear hR;go_enter (sf 69 f69),ntmps69;go_wp2;go_loopw [14,8,1] (fun i u v wr=>∃(k:Nat) (m b:Int),i=.int .i64 k/\u=.int .i64 m/\v=.int .i64 b/\k<=l.length/\I wr/\Hid (XC f k (m,b) (l.drop k)=R)) (fun i _ _ _=>l.length-(intOf i).toNat);case atStart=>exact⟨0,-1,b0,rfl,rfl,rfl,Nat.zero_le _,hw,HR⟩
 case round =>
  obtain⟨k,m,b,rfl,rfl,rfl,hk,hB,HN⟩:=hrel;by_cases hlt:k<l.length
  ·obtain⟨bb,o,rfl,hP⟩:=hI wr hB (by omega);obtain⟨x,hx⟩:∃x,l[k]? = some x:=⟨l[k],by simp[hlt]⟩;have c0:=hP k x hx 0 _ rfl;simp only[Nat.mul_one,Nat.add_zero]at c0;have hkc:(k:Int)<=(c:Int):=(by omega);have hcl:=hcall k x hx wr hB;have hE:=HN.out;rw[List.drop_eq_getElem_cons hlt,XC,show l[k]=x from(qB hx).2]at hE;clear hP hx hI hcall;obtain⟨y,hy⟩:∃y,f x=y:=⟨_,rfl⟩;rw[hy]at hcl hE;simp only at hE;obtain⟨args,hargs⟩:∃args,(#[.int .i64 x]++bound)=args:=⟨_,rfl⟩;rw[hargs]at hcl;by_cases hyb:y<b
   ·rw[if_pos hyb]at hE;have HE:=qd hE;clear hE;go_wp2_with ((first|(rw[hargs])|skip);(with_reducible refine hcl.mono ?_);rintro e w1 ⟨rfl,hB1⟩);go_roundw;(case rel=>exact⟨k+1,k,y,rfl,rfl,rfl,by omega,hB1,HE⟩);case measure=>simp[intOf];omega
   ·rw[if_neg hyb]at hE;have HE:=qd hE;clear hE;go_wp2_with ((first|(rw[hargs])|skip);(with_reducible refine hcl.mono ?_);rintro e w1 ⟨rfl,hB1⟩);go_roundw;(case rel=>exact⟨k+1,m,b,rfl,rfl,rfl,by omega,hB1,HE⟩);case measure=>simp[intOf];omega
  ·obtain rfl:k=l.length:=(by omega);have hE:=HN.out;rw[List.drop_eq_nil_of_le ql,XC]at hE;subst hE;go_wp2
   go_ret2
   exact⟨rfl,hB⟩
theorem qgi{n:Nat}(h:n<=1000):wrap64 ((n:Int)+1)=(n:Int)+1:=by unfold wrap64;omega
theorem max_succ(m n:Nat):max (m:Int) ((n:Int)+1)=((max m (n+1):Nat):Int):=by omega
def qfo:List Int->Nat
 | []=>0
 | x::r=>max (qfo r) ((x::r).count x)
def Jt(vs:List Int):Nat:=qfo vs.reverse
theorem qfn(vs:List Int)(x:Int):Jt (vs++[x])=max (Jt vs) (vs.count x+1):=by
 unfold Jt;rw[List.reverse_append];show max (qfo vs.reverse) ((x::vs.reverse).count x)=_;rw[List.count_cons_self,List.count_reverse]
theorem mostN_le(vs:List Int):Jt vs<=vs.length:=by
 unfold Jt
 have key:∀l:List Int,qfo l<=l.length:=by
  intro l
  induction l with
  | nil=>exact ql
  | cons x r ih=>unfold qfo;have:=List.count_le_length (a:=x) (l:=x::r);simp only[List.length_cons]at *;omega
 have:=key vs.reverse;rwa[List.length_reverse]at this
def cntF(vs:List Int):Int->Option Value:=fun x=>if vs.count x=0 then none else some (.int .i64 (vs.count x:Nat))
theorem qbZ(vs:List Int)(x:Int):(cntF vs x).getD (.int .i64 0)=.int .i64 (vs.count x:Nat):=by
 unfold cntF;split
 ·rename_i h;rw[h];rfl
 ·rfl
theorem cntF_add(vs:List Int)(x:Int):(fun k=>if k=x then some (.int .i64 ((vs.count x:Nat)+1:Int))else cntF vs k)=cntF (vs++[x]):=by
 funext k;unfold cntF;rw[List.count_append];by_cases hk:k=x
 ·subst hk;rw[if_pos rfl,List.count_cons_self,List.count_nil];rw[if_neg (by omega)];congr 2
 ·rw[if_neg hk,List.count_cons_of_ne (fun e=>hk e.symm),List.count_nil,Nat.add_zero]
def qfM(D:DayM)(i:Nat):Int:=match D.cs[i]? with
 | some c=>c.se
 | none=>-2
def askV(D:DayM)(i:Nat):Int:=if qfM D i≠-2 then(qx D).length else Jt ((qx D).map fun p=>(qD D (setOf p)).getD i 0)
theorem ask1_any(D:DayM)(M:Nat)(A:Nat->Prop)(w0 w:World)(h:St D M A w0 w)(hA:∀b,A b->b<w.heap.size)(hz:checkN D=0)(db lb:Nat)(hd:B6 w db (.slice D.ta D.ts.length D.tc) (.slice D.ga D.gs.length D.gc) (.slice D.oa D.os.length D.oc) (.slice D.ha D.hs.length D.hc) (.slice D.ca D.cs.length D.cc) (.map (some M)))
 (a:Option Addr) (c:Nat) (hl:w.cell? ⟨lb,0,none⟩=some (.slice a (qx D).length c)) (hlc:(qx D).length<=c) (hr:qi w 4 Zx a (qx D)) (i:Nat) (hi:i<D.cs.length) :
 Calls qp 85 #[.int .i64 i,pt db,pt lb] w fun e w'=>e=.returned (.int .i64 (askV D i))/\St D M A w0 w'/\w.grownBy w' (some M):=by
 obtain⟨y,hy⟩:∃y,D.cs[i]? = some y:=⟨D.cs[i],by simp[hi]⟩;have hml:=h.kn.lt;have hcl:=h.ok.cs;have hN:=zb hz;have hi0:(0:Int)<=(i:Int):=Int.natCast_nonneg i;have hil:(i:Int)<(D.cs.length:Int):=by omega
 have hid:(i:Int)<=(D.cc:Int):=by have:=h.sm.cs.2;omega
 obtain⟨cb,co,hca,hC⟩:=h.day.cs (by show 1<=D.cs.length;omega);have y4:=hC i y hy 4 _ rfl;have hsee:qfM D i=y.se:=by unfold qfM;rw[hy]
 have hplx:=fun p (hp:p.ok) (B:Nat->Prop) W (hS:St D M B w0 W) (hB:∀b,B b->b<W.heap.size)=>QK hS (setOf p) (by simp[setOf]) hp (by simp[setOf]) hB;have HPL:=qd hplx;have HOK:=qd (Qk hz);have HD:=qd hd;have HST:=qd h;have HA:=qd hA;have HR:=qd hr;have HL:=qd hl;have hdl:=hd.lt;have hll:=lt_of_cell hl;simp only at hll;obtain⟨d0,d1,d2,d3,d4,d5⟩:=hd;rw[hca]at d4;clear hC hr h hA hplx hz hy hca;obtain⟨f1,f2,f3,f4,se⟩:=y;simp only at y4 hsee;by_cases hs:se=-2
 ·have hAV:askV D i=Jt ((qx D).map fun p=>(qD D (setOf p)).getD i 0):=by unfold askV;rw[if_neg (by rw[hsee];simpa using hs)]
  rw[hAV];subst hs;clear hsee hAV;have hmk:=qfj w;have hG0:=Qu.new (enc:=ZW) w;have hBC:=(Below.refl w.heap.size w).alloc ql (Obj.map #[] 0);obtain⟨W0,hW0⟩:∃W0,w.alloc (Obj.map #[] 0)=W0:=⟨_,rfl⟩;rw[hW0]at hmk hG0 hBC;obtain⟨C,hC⟩:∃C,w.heap.size=C:=⟨_,rfl⟩;rw[hC]at hmk hG0;have hl0:=qb _ hBC hl;have HG0:=qd hG0;have HBC:=qd hBC;clear hG0 hBC hW0 hl d0 d1 d2 d3 d5;go_enter (sf 85 f85),ntmps85;go_upto_region 5 with fail;clear hmk d4 y4;go_wp2;go_loopw [23,6] (fun i2 u wr=>∃(k m:Nat),i2=.int .i64 k/\u=.int .i64 m/\k<=(qx D).length/\Hid (St D M (fun b=>A b\/b=C) w0 wr)/\Hid (w.grownBy wr (some M))/\Hid (Qu ZW wr C (cntF (((qx D).map fun p=>(qD D (setOf p)).getD i 0).take k)))/\Hid (m=Jt (((qx D).map fun p=>(qD D (setOf p)).getD i 0).take k))/\Hid (Mod (fun b=>b=M\/b=C) W0 wr)) (fun i2 _ _=>(qx D).length-(intOf i2).toNat);case atStart=>exact⟨0,0,rfl,rfl,Nat.zero_le _,qd ((HST.out.mod (S:=fun _=>False) (Mod.refl _ _) (fun _ e=>e.elim) (fun b hb=>by rcases hb with hb|hb;exact .inl hb;exact .inr (by omega))).keep HBC.out),qd (qo HBC.out),qd (by have e:cntF []=fun _=>none:=(by funext x;simp[cntF]);rw[List.take_zero,e];exact HG0.out),qd rfl,qd (Mod.refl _ _)⟩
  case round =>
   obtain⟨k,m,rfl,rfl,hk,HS,HG,HC,HM,HMD⟩:=hrel;have hsz:=HMD.out.size;by_cases hlt:k<(qx D).length
   ·have hrR:=HST.out.rows HG.out HR.out;obtain⟨b,o,rfl,hP⟩:=hrR (by omega);obtain⟨p,hp⟩:∃p,(qx D)[k]? = some p:=⟨(qx D)[k],by simp[hlt]⟩;have c0:=hP k p hp 0 _ rfl;have c1:=hP k p hp 1 _ rfl;have c2:=hP k p hp 2 _ rfl;have c3:=hP k p hp 3 _ rfl;simp only[Nat.add_zero]at c0;have hkc:(k:Int)<=(c:Int):=(by omega);have hokp:=HOK.out p (qI hp);obtain⟨x,hx⟩:∃x,(qD D (setOf p)).getD i 0=x:=⟨_,rfl⟩
    have hxr:(qD D (setOf p))[i]? = some x:=by
     have hpl:(qD D (setOf p)).length=D.cs.length:=qH _ _;rw[<-hx,List.getD_eq_getElem?_getD,qM (by omega)];rfl
    have hvk:((qx D).map fun p=>(qD D (setOf p)).getD i 0)[k]? = some x:=(by rw[List.getElem?_map,hp,<-hx];rfl);have HV:=qd (qg hvk hxr);have hpll:(qD D (setOf p)).length=D.cs.length:=qH _ _;have e6:B6 wr db (.slice D.ta D.ts.length D.tc) (.slice D.ga D.gs.length D.gc) (.slice D.oa D.os.length D.oc) (.slice D.ha D.hs.length D.hc) (.slice D.ca D.cs.length D.cc) (.map (some M)):=⟨HST.out.cell HG.out HD.out.c0,HST.out.cell HG.out HD.out.c1,HST.out.cell HG.out HD.out.c2,HST.out.cell HG.out HD.out.c3,HST.out.cell HG.out HD.out.c4,HST.out.cell HG.out HD.out.c5⟩;have has:=fun X=>zX p X;unfold pvP at has;have hpl:=HPL.out p hokp (fun b=>A b\/b=C)
    generalize qD D (setOf p)=R at *
    generalize setOf p=s at *
    obtain⟨sv,hsv⟩:∃sv,zf s=sv:=⟨_,rfl⟩;rw[hsv]at has;simp only[hsv]at hpl;unfold dm at hpl;have HP:=qd hpl;have HAS:=qd has;have HE:=qd e6;have HPK:=qd (qg hp hx);clear hpl has hP hp hx hvk hxr hrR e6 hokp;have hCw:=HC.out.lt;go_upto_region 8 with fail;obtain⟨W,hW⟩:∃W,wr.alloc (Obj.cells #[.int .i64 p.a,.int .i64 p.b,.int .i64 p.c,.int .i64 p.d] 81)=W:=⟨_,rfl⟩;have hBW:Below wr.heap.size wr W:=(by subst hW;go_grown);have hq:PB W wr.heap.size p:=(by subst hW;exact PB.of (by go_cell) (by go_cell) (by go_cell) (by go_cell) (by go_cell) (by go_cell) (by go_cell) (by go_cell));obtain⟨q0,q1,q2,q3⟩:=hq.four;obtain⟨d0,d1,d2,d3,d4,d5⟩:=HE.out.keep hBW;have hS:RG10 D M (fun b=>A b\/b=C) w0 W ⟨db,0,none⟩ ⟨db,1,none⟩ ⟨db,2,none⟩ ⟨db,3,none⟩ ⟨db,4,none⟩ ⟨db,5,none⟩ ⟨wr.heap.size,0,none⟩ ⟨wr.heap.size,1,none⟩ ⟨wr.heap.size,2,none⟩ ⟨wr.heap.size,3,none⟩ (.slice D.ta D.ts.length D.tc) (.slice D.ga D.gs.length D.gc) (.slice D.oa D.os.length D.oc) (.slice D.ha D.hs.length D.hc) (.slice D.ca D.cs.length D.cc) (.map (some M)) (.int .i64 p.a) (.int .i64 p.b) (.int .i64 p.c) (.int .i64 p.d) W:=⟨d0,d1,d2,d3,d4,d5,q0,q1,q2,q3,HS.out.keep hBW,qo (Below.refl _ _)⟩;rw[hW];have hWs:=hBW.size;clear hW hq q0 q1 q2 q3 d0 d1 d2 d3 d4 d5 c0 c1 c2 c3;refine wp_region_held_drew (S:=(RG10 D M (fun b=>A b\/b=C) w0 W ⟨db,0,none⟩ ⟨db,1,none⟩ ⟨db,2,none⟩ ⟨db,3,none⟩ ⟨db,4,none⟩ ⟨db,5,none⟩ ⟨wr.heap.size,0,none⟩ ⟨wr.heap.size,1,none⟩ ⟨wr.heap.size,2,none⟩ ⟨wr.heap.size,3,none⟩ (.slice D.ta D.ts.length D.tc) (.slice D.ga D.gs.length D.gc) (.slice D.oa D.os.length D.oc) (.slice D.ha D.hs.length D.hc) (.slice D.ca D.cs.length D.cc) (.map (some M)) (.int .i64 p.a) (.int .i64 p.b) (.int .i64 p.c) (.int .i64 p.d))) (by kernel_rfl) (by exact RGL.drew hS) (fun hHeld=>?_)
    refine tk 0 ?_;refine tk 1 ?_;(refine tk 4 ?_;try simp only[zs,Act.put]);refine tkR 2 fun K hK=>?_;go_simp;go_wp2_with (go_at_call 48;(with_reducible refine(HAS.out _).mono ?_);rintro e w1 ⟨rfl,hB1⟩);refine hK.out _ _ (by exact RGL.call hHeld hB1) (fun hHeldN=>?_);clear hK K hHeld;have hHeld:=hHeldN;clear hHeldN;(try simp only[zs,Act.put]);refine tkR 3 fun K hK=>?_;go_simp;go_wp2_with (go_at_call 47;(with_reducible refine(HP.out _ (RGL.st hHeld) (fun b hb=>by have:=(RGL.gr hHeld).size;have:=HBC.out.size;rcases hb with hb|hb;have:=HA.out b hb;omega;omega)).mono ?_);rintro e X ⟨a2,c2,rfl,hlc2,hrow,hst1,hg1⟩);refine hK.out _ _ (by exact RGL.play hHeld hst1 hg1) (fun hHeldN=>?_);clear hK K hHeld;have hHeld:=hHeldN;clear hHeldN;(try simp only[zs,Act.put]);obtain⟨b2,o2,rfl,hP2⟩:=hrow (by omega);have c9:=hP2 i x HV.out.2 0 _ rfl;simp only[Nat.mul_one,Nat.add_zero]at c9;have hic:(i:Int)<=(c2:Int):=(by omega);clear hP2;(refine tk 5 ?_;try simp only[zs,Act.put]);(refine tkR 6 fun K hK=>?_;go_simp;refine hK.out _ _ (by exact hHeld) (fun hHeldN=>?_);clear hK K hHeld;have hHeld:=hHeldN;clear hHeldN;try simp only[zs,Act.put]);(refine tk 7 ?_;try simp only[zs,Act.put]);refine wpAnyH_done (by kernel_rfl) ?_ _;(try simp only[zs,Act.put]);have hgX:=RGL.gr hHeld;have hsX:=RGL.st hHeld;have hmX:Mod (fun b=>b=M\/b=C) W0 X:=HMD.out.trans ((Mod.below hBW).trans ((Mod.grown hgX (S:=fun b=>b=M) (fun b e=>(qz e).symm)).mono (fun b e=>.inl e)));have hCl:=HC.out.lt;have hGX:Qu ZW X C (cntF (((qx D).map fun p=>(qD D (setOf p)).getD i 0).take k)):=(HC.out.keep hBW).block (hgX.block C (by omega) (by intro e;cases e;omega))
    have hk1:((((qx D).map fun p=>(qD D (setOf p)).getD i 0).take k).count x)<=k:=Nat.le_trans List.count_le_length (by rw[List.length_take];omega);have hl1:=yH qfp hGX x false;rw[qbZ]at hl1;simp only[if_false,Bool.false_eq_true,ZW]at hl1;obtain⟨X2,hu,hG2,hgr2,hsz2⟩:=jh qfp hGX x (.int .i64 (((((qx D).map fun p=>(qD D (setOf p)).getD i 0).take k).count x:Nat)+1:Int));rw[cntF_add]at hG2;have hl2:=yH qfp hG2 x false;rw[qbZ]at hl2;simp only[if_false,Bool.false_eq_true,ZW]at hl2 hu;rw[List.count_append,List.count_cons_self,List.count_nil]at hl2;have hvs:((qx D).map fun p=>(qD D (setOf p)).getD i 0).take (k+1)=((qx D).map fun p=>(qD D (setOf p)).getD i 0).take k++[x]:=(by rw[List.take_add_one,HV.out.1];rfl);have hmn:=mostN_le (((qx D).map fun p=>(qD D (setOf p)).getD i 0).take k);have hmk:Jt (((qx D).map fun p=>(qD D (setOf p)).getD i 0).take (k+1))=max m ((((qx D).map fun p=>(qD D (setOf p)).getD i 0).take k).count x+1):=(by rw[hvs,qfn,<-HM.out]);have hmb:m<=k:=(by have:=HM.out;rw[List.length_take]at hmn;omega);obtain⟨n,hn⟩:∃n,(((qx D).map fun p=>(qD D (setOf p)).getD i 0).take k).count x=n:=⟨_,rfl⟩;rw[hn]at hl1 hl2 hu hk1 hmk;have hmm:Mod (fun b=>b=C) X X2:=Mod.grown hgr2 (fun b e=>(qz e).symm);have hG2':Qu ZW X2 C (cntF (((qx D).map fun p=>(qD D (setOf p)).getD i 0).take (k+1))):=(by rw[hvs];exact hG2);have HF:=qd (qg (hsX.mod (A':=fun b=>A b\/b=C) hmm (fun b hb=>⟨.inr hb,by omega,by have:=HST.out.bel.size;omega⟩) (fun b hb=>.inl hb)) (qg (zU (qw (qw HG.out (qo hBW)) hgX) hmm (fun b hb=>by omega)) (qg hG2' (hmX.trans (hmm.mono (fun b e=>.inr e))))))
    have HMK:=qd hmk;have hw1:=qgi (show n<=1000 by omega);clear hGX hG2 hG2' hmX hsX hgX hHeld hmm hgr2 hvs hmn hmk hrow hst1 hg1 hS hn;go_wp2;have hmx:Value.int .i64 (max (m:Int) ((n:Int)+1))=.int .i64 ((max m (n+1):Nat):Int):=(by rw[max_succ]);clear hw1 hl1 hl2 hu;go_roundw;(case rel=>exact⟨k+1,max m (n+1),rfl,hmx,by omega,qd HF.out.1,qd HF.out.2.1,qd HF.out.2.2.1,qd HMK.out.symm,qd HF.out.2.2.2⟩);case measure=>simp[intOf];omega
   ·obtain rfl:k=(qx D).length:=(by omega);have hM:=HM.out;rw[List.take_of_length_le (by rw[List.length_map];exact ql)]at hM;have HMM:=qd hM;clear hM;go_wp2;go_ret;exact⟨by rw[HMM.out];rfl,HS.out.mod (S:=fun _=>False) (Mod.refl _ _) (fun _ e=>e.elim) (fun b hb=>.inl (.inl hb)),HG.out⟩
 ·have hAV:askV D i=(qx D).length:=by unfold askV;rw[if_pos (by rw[hsee];exact hs)]
  rw[hAV];have hb:(se != -2)=true:=by simpa using hs
  clear hAV hs hsee;go_enter (sf 85 f85),ntmps85;go_wp2;go_ret;exact⟨rfl,HST.out,qo (Below.refl _ _)⟩
def TwoP(al:Int)(r:Int×Int)(w:World)(e:Ending)(w':World):Prop :=
 Below w.heap.size w w'/\((al≠0/\e=.returned (.tuple #[.int .i64 0,.int .i64 0,.int .i64 al]))\/(al=0/\e=.returned (.tuple #[.int .i64 r.1,.int .i64 r.2,.int .i64 0])))
def askN(D:DayM):Int×Int:=qeb (fun i=>askV D i.toNat) (Qx D.cs.length) (qx D).length
theorem ask_top(D:DayM)(w:World)(h:DayAt w D)(hs:DaySm D)(hG:Globs w):Calls qp 38 #[dv D] w (TwoP (zt D 0) (askN D) w):=by
 obtain⟨W,hW⟩:∃W,w.alloc (Obj.cells #[.slice D.ta D.ts.length D.tc,.slice D.ga D.gs.length D.gc,.slice D.oa D.os.length D.oc,.slice D.ha D.hs.length D.hc,.slice D.ca D.cs.length D.cc] 28)=W:=⟨_,rfl⟩;have hBW:Below w.heap.size w W:=by subst hW;go_grown
 have hsW:W.heap.size=w.heap.size+1:=by subst hW;simp
 have k0:W.cell? ⟨w.heap.size,0,none⟩=some (.slice D.ta D.ts.length D.tc):=by subst hW;go_cell
 have k1:W.cell? ⟨w.heap.size,1,none⟩=some (.slice D.ga D.gs.length D.gc):=by subst hW;go_cell
 have k2:W.cell? ⟨w.heap.size,2,none⟩=some (.slice D.oa D.os.length D.oc):=by subst hW;go_cell
 have k3:W.cell? ⟨w.heap.size,3,none⟩=some (.slice D.ha D.hs.length D.hc):=by subst hW;go_cell
 have k4:W.cell? ⟨w.heap.size,4,none⟩=some (.slice D.ca D.cs.length D.cc):=by subst hW;go_cell
 have hask:=yF D W (h.keep hBW) hs (hG.keep hBW) 63 #[] (cE 63 (by decide +kernel)) 0 (fun M V hM hB=>by unfold dm;exact yV _ _ _ _ _ _ V);have hdv:dv D=.agg #[.slice D.ta D.ts.length D.tc,.slice D.ga D.gs.length D.gc,.slice D.oa D.os.length D.oc,.slice D.ha D.hs.length D.hc,.slice D.ca D.cs.length D.cc]:=rfl;rw[hdv]at hask⊢;have HD:=qd (qg h hs);unfold TwoP;clear h hs hG hdv;by_cases ha:zt D 0=0
 ·have hz:=yj ha;have hok:=hask.mono (fun e w' h=>h.ok ha);have HA:=qd ha;have HZ:=qd hz.1;clear hask ha hz;go_enter (sf 38 f38),ntmps38;go_upto_region 1 with fail;try rw[hW]
  clear hW;unfold dm at hok;go_upto_region 4 with(go_at_call 42;(with_reducible refine hok.mono ?_);rintro e w1 ⟨M,a,c,rfl,hpos,hlc,hrow,hfr,hst⟩;have hs1:=hst.bel.size);have hML:=hst.kn.lt;obtain⟨V2,hV2⟩:∃V2,(w1.alloc (Obj.cells #[.slice D.ta D.ts.length D.tc,.slice D.ga D.gs.length D.gc,.slice D.oa D.os.length D.oc,.slice D.ha D.hs.length D.hc,.slice D.ca D.cs.length D.cc,.map (some M)] 73)).alloc (Obj.cells #[.slice a (qx D).length c] 74)=V2:=⟨_,rfl⟩;have hBV:Below w1.heap.size w1 V2:=by subst hV2;go_grown
  have h7:B6 V2 w1.heap.size (.slice D.ta D.ts.length D.tc) (.slice D.ga D.gs.length D.gc) (.slice D.oa D.os.length D.oc) (.slice D.ha D.hs.length D.hc) (.slice D.ca D.cs.length D.cc) (.map (some M)):=by subst hV2;exact⟨by go_cell,by go_cell,by go_cell,by go_cell,by go_cell,by go_cell⟩
  have hl7:V2.cell? ⟨w1.heap.size+1,0,none⟩=some (.slice a (qx D).length c):=by subst hV2;go_cell
  have hszV:V2.heap.size=w1.heap.size+2:=by subst hV2;simp
  obtain⟨T,hT⟩:∃T,w1.heap.size=T:=⟨_,rfl⟩;try rw[hV2]
  have hsV:=hst.keep hBV;have hrV:=hrow.keep hBV;rw[hT]at h7 hl7 hML hszV⊢;have hcs8:=(qY D HZ.out).cs;have hup:=fun X=>qcA D.cs.length (by omega) X
  have hbe:=fun X (hX:Below V2.heap.size V2 X) (g:Nat) (hg:qi X 1 encI (some ⟨g,0,none⟩) (Qx D.cs.length))=>qbW 85 #[pt T,pt (T+1)] (cE 85 (by decide +kernel)) (fun i=>askV D i.toNat) (Qx D.cs.length) (some ⟨g,0,none⟩) D.cs.length (qx D).length (by rw[yL];omega) (by rw[yL];exact ql)
   (fun Y=>St D M (fun _=>False) W Y/\X.grownBy Y (some M)) (fun Y hY=>(hsV.keep hX).rows hY.2 hg) X ⟨hsV.keep hX,qo (Below.refl _ _)⟩ (fun i x hx Y hY=>by
     have hi:i<D.cs.length:=(by have:=(qB hx).1;rwa[yL]at this);rw[Xm hi]at hx;cases hx;have hm:=Mod.grown hY.2 (S:=fun b=>b=M) (fun b e=>(qz e).symm)
     exact(ask1_any D M (fun _=>False) W Y hY.1 (fun b hb=>hb.elim) HZ.out T (T+1) ((h7.keep hX).mod hm (show ¬T=M by omega)) a c (hm.cell (qb _ hX hl7) (show ¬T+1=M by omega)) hlc ((hsV.keep hX).rows hY.2 (hrV.keep hX)) i hi).mono fun e w' ⟨he,hs9,hg9⟩=>⟨he,hs9,qw hY.2 hg9⟩)
  rw[yL]at hbe;have HF:=qd (qg hBW hsV);have HUP:=qd hup;have HBE:=qd hbe;obtain⟨t0,t1,t2,t3,t4,t5⟩:=h7;have hS:RG7 D M (fun _=>False) W V2 ⟨T,0,none⟩ ⟨T,1,none⟩ ⟨T,2,none⟩ ⟨T,3,none⟩ ⟨T,4,none⟩ ⟨T,5,none⟩ ⟨T+1,0,none⟩ (.slice D.ta D.ts.length D.tc) (.slice D.ga D.gs.length D.gc) (.slice D.oa D.os.length D.oc) (.slice D.ha D.hs.length D.hc) (.slice D.ca D.cs.length D.cc) (.map (some M)) (.slice a (qx D).length c) V2:=⟨t0,t1,t2,t3,t4,t5,hl7,hsV,qo (Below.refl _ _)⟩;clear hBV hV2 hrow hrV hst hok hfr k0 k1 k2 k3 k4 hup hbe t0 t1 t2 t3 t4 t5 hl7 hsV;refine wp_region_held_drew (S:=(RG7 D M (fun _=>False) W V2 ⟨T,0,none⟩ ⟨T,1,none⟩ ⟨T,2,none⟩ ⟨T,3,none⟩ ⟨T,4,none⟩ ⟨T,5,none⟩ ⟨T+1,0,none⟩ (.slice D.ta D.ts.length D.tc) (.slice D.ga D.gs.length D.gc) (.slice D.oa D.os.length D.oc) (.slice D.ha D.hs.length D.hc) (.slice D.ca D.cs.length D.cc) (.map (some M)) (.slice a (qx D).length c))) (by kernel_rfl) (by exact RGL.drew hS) (fun hHeld=>?_);refine tk 0 ?_;refine tk 1 ?_;refine tk 2 ?_;refine tk 3 ?_;refine tk 5 ?_;refine tk 6 ?_;(refine tk 7 ?_;try simp only[zs,Act.put]);refine tkR 4 fun K hK=>?_;go_simp;go_wp2_with (go_at_call 70;(with_reducible refine(HUP.out _).mono ?_);rintro e X ⟨rfl,hrU,hB4⟩);refine hK.out _ _ (by exact RGL.call hHeld hB4) (fun hHeldN=>?_);clear hK K hHeld;have hHeld:=hHeldN;clear hHeldN;try simp only[zs,Act.put]
  have hrU2:qi X 1 encI (some ⟨V2.heap.size,0,none⟩) (Qx D.cs.length):=hrU;rw[hszV]at hrU2;have hcl:=HBE.out X (((Below.refl _ V2).drew).trans hB4) _ hrU2;refine tkR 8 fun K hK=>?_;go_simp;go_wp2_with (go_at_call 69;(with_reducible refine hcl.mono ?_);rintro e Y ⟨rfl,hst1,hg1⟩);refine hK.out _ _ (by exact RGL.play hHeld hst1 hg1) (fun hHeldN=>?_);clear hK K hHeld;have hHeld:=hHeldN;clear hHeldN;try simp only[zs,Act.put]
  refine tk 9 ?_;refine tk 10 ?_;refine tk 11 ?_;refine tk 12 ?_;(refine tk 13 ?_;try simp only[zs,Act.put]);refine wpAnyH_done (by kernel_rfl) ?_ _;try simp only[zs,Act.put]
  have hstf:=RGL.st hHeld;go_wp2
  go_ret3
  exact⟨Below.call HF.out.1 hstf.bel (by omega),.inr ⟨HA.out,rfl⟩⟩
 ·have hbad:=hask.mono (fun e w' h=>h.bad ha);have hb:(zt D 0 != 0)=true:=by simpa using ha
  unfold dz at hbad;have HA:=qd ha;clear hask ha
  generalize zt D 0=r at *
  go_enter (sf 38 f38),ntmps38;go_upto_region 1 with fail;try rw[hW]
  clear hW;go_wp2_with (go_at_call 42;(with_reducible refine hbad.mono ?_);rintro e w1 ⟨rfl,hB1⟩;have hs1:=hB1.size)
  go_ret3
  exact⟨Below.call hBW (by go_grown) (by omega),.inl ⟨HA.out,rfl⟩⟩
theorem qcq(a b c e a' b' c' e':Int)(w:World):(binOp .neq 81 (.agg #[.int .i64 a,.int .i64 b,.int .i64 c,.int .i64 e]) (.agg #[.int .i64 a',.int .i64 b',.int .i64 c',.int .i64 e'])).run qp w=.ok (.bool (!(a==a'&&(b==b'&&(c==c'&&(e==e'&&true)))))) w:=by
 rw[run_neq_struct,qem 9998];rfl
theorem hmPast:qp.eqGuardType qp.depth 81=false:=by kernel_rfl
@[go_sem] theorem guardP_run (op:BinOp) (p q:Operand) (xs ys:Array Value) (w:World):(eqGuard op 81 p q (.agg xs) (.agg ys)).run qp w=.ok () w:=run_eqGuard_agg w op _ p q xs ys hmPast
def PastM.add(p q:PastM):PastM:=⟨p.a+q.a,p.b+q.b,p.c+q.c,p.d+q.d⟩
theorem PastM.add_get(p q:PastM)(j:Nat):(p.add q).get j=p.get j+q.get j:=by
 match j with
 | 0=>rfl
 | 1=>rfl
 | 2=>rfl
 | n+3=>rfl
def yA:PastM:=⟨0,0,0,0⟩
theorem PastM.add_zero(p:PastM):p.add yA=p:=by
 obtain⟨a,b,c,d⟩:=p;simp[PastM.add,yA]
def PastM.le(p:PastM)(n:Int):Prop:=∀g,0<=p.get g/\p.get g<=n
theorem PastM.le_add{p q:PastM}{n m:Int}(h:p.le n)(k:q.le m):(p.add q).le (n+m):=fun g=>by rw[PastM.add_get];have:=h g;have:=k g;omega
theorem PastM.le_set{p:PastM}{n:Int}(h:p.le n){i:Nat}(hi:i<4){v:Int}(hv:0<=v/\v<=n):(p.set i v).le n:=by
 have hx:∀j,j<4->0<=(p.set i v).get j/\(p.set i v).get j<=n:=fun j hj=>by
  by_cases e:j=i
  ·subst e;rw[PastM.get_set _ hj];exact hv
  ·rw[PastM.get_set_ne _ hi hj e];exact h j
 intro g;by_cases hg:g<4
 ·exact hx g hg
 ·rw[PastM.get_big _ (by omega)];exact hx 3 (by omega)
theorem Yx{n:Int}(hn:0<=n):yA.le n:=fun g=>by
 match g with
 | 0=>exact⟨Int.le_refl _,hn⟩
 | 1=>exact⟨Int.le_refl _,hn⟩
 | 2=>exact⟨Int.le_refl _,hn⟩
 | n+3=>exact⟨Int.le_refl _,hn⟩
theorem Jy{D:DayM}(hz:checkN D=0):∀p∈qx D,p.le 6:=by
 have hg:=xG D hz;have h4:=(qY D hz).gs
 have key:∀(gs:List GrpM) (i:Nat) (p:PastM),i+gs.length<=4->p.le 6->(∀g∈gs,0<=g.lo/\g.hi<=6)->∀q∈zw gs i p,q.le 6:=by
  intro gs
  induction gs with
  | nil=>intro i p _ hp _ q hq;simp[zw]at hq;subst hq;exact hp
  | cons g gs ih =>
    intro i p hi hp hgs q hq;unfold zw at hq;obtain⟨n,hn,hq⟩:=List.mem_flatMap.1 hq;unfold Qw at hn;obtain⟨k,hk,rfl⟩:=List.mem_map.1 hn;have hk:=List.mem_range.1 hk;have h1:=hgs g (List.mem_cons_self);simp only[List.length_cons]at hi;exact ih (i+1) _ (by omega) (PastM.le_set hp (by omega) (by omega)) (fun g' hg'=>hgs g' (List.mem_cons_of_mem _ hg')) q hq
 intro p hp;have hp:=(List.mem_filter.1 hp).1;exact key D.gs 0 ⟨0,0,0,0⟩ (by omega) (Yx (by decide)) (fun g hm=>⟨(hg g hm).1,(hg g hm).2.2.1⟩) p hp
theorem wrap_le{a b:Int}(h:0<=a/\a<=6)(k:0<=b/\b<=3):wrap64 (a+b)=a+b:=by unfold wrap64;omega
theorem qcp(m n:Nat):max (m:Int) (n:Int)=((max m n:Nat):Int):=by omega
def qbo(D:DayM)(s:SetM):Nat:=(qD D s).countP fun k=>k == -1
theorem qco(D:DayM)(s:SetM):YX D s=(qbo D s:Nat):=rfl
def yN(D:DayM)(l:List PastM)(more:PastM):Nat:=l.foldl (fun m p=>max m (qbo D (setOf (p.add more)))) 0
theorem XW(D:DayM)(l:List PastM)(p more:PastM):yN D (l++[p]) more=max (yN D l more) (qbo D (setOf (p.add more))):=by unfold yN;rw[List.foldl_append];rfl
structure SX (W:World) (b:Nat) (q:PastM):Prop where
 c0:W.cell? ⟨b,0,none⟩=some (.int .i64 q.a)
 c1:W.cell? ⟨b,1,none⟩=some (.int .i64 q.b)
 c2:W.cell? ⟨b,2,none⟩=some (.int .i64 q.c)
 c3:W.cell? ⟨b,3,none⟩=some (.int .i64 q.d)
 c4:W.cell? ⟨b,4,none⟩=some (.int .u64 0)
 c5:W.cell? ⟨b,5,none⟩=some (.int .i64 (-1))
 c6:W.cell? ⟨b,6,none⟩=some (.int .i64 0)
 c7:W.cell? ⟨b,7,none⟩=some (.int .i64 0)
 c8:W.cell? ⟨b,8,none⟩=some (.int .i64 0)
 f0:W.frozen? ⟨b,0,none⟩=false
 f1:W.frozen? ⟨b,1,none⟩=false
 f2:W.frozen? ⟨b,2,none⟩=false
 f3:W.frozen? ⟨b,3,none⟩=false
theorem SX.mod{S:Nat->Prop}{W W1:World}{b:Nat}{q:PastM}(h:SX W b q)(hm:Mod S W W1)(hb:¬S b):SX W1 b q :=
 ⟨hm.cell h.c0 hb,hm.cell h.c1 hb,hm.cell h.c2 hb,hm.cell h.c3 hb,hm.cell h.c4 hb,hm.cell h.c5 hb,hm.cell h.c6 hb,hm.cell h.c7 hb,hm.cell h.c8 hb,(hm.frozen h.c0 hb).trans h.f0,(hm.frozen h.c1 hb).trans h.f1,(hm.frozen h.c2 hb).trans h.f2,(hm.frozen h.c3 hb).trans h.f3⟩
theorem SX.keep{W W1:World}{b:Nat}{q:PastM}(h:SX W b q)(hB:Below W.heap.size W W1):SX W1 b q:=h.mod (S:=fun _=>False) (Mod.below hB) (fun e=>e)
def qdP(W:World)(b:Nat)(r:PastM):World:=(((W.setCell ⟨b,0,none⟩ (.int .i64 r.a)).setCell ⟨b,1,none⟩ (.int .i64 r.b)).setCell ⟨b,2,none⟩ (.int .i64 r.c)).setCell ⟨b,3,none⟩ (.int .i64 r.d)
theorem qcu(W:World)(b:Nat)(r:PastM):Mod (fun k=>k=b) W (qdP W b r):=by
 unfold qdP;exact((((Mod.refl (fun k=>k=b) W).put ⟨b,0,none⟩ _ rfl).put ⟨b,1,none⟩ _ rfl).put ⟨b,2,none⟩ _ rfl).put ⟨b,3,none⟩ _ rfl
theorem SX.put{W:World}{b:Nat}{q:PastM}(h:SX W b q)(r:PastM):SX (qdP W b r) b r:=by
 have n:∀(i j:Nat),i≠j->((⟨b,i,none⟩:Addr).block≠(⟨b,j,none⟩:Addr).block\/(⟨b,i,none⟩:Addr).off≠(⟨b,j,none⟩:Addr).off):=fun i j h=>.inr h;have s0:=qA (v:=.int .i64 r.a) (qL h.c0);have p1:=qj (u:=.int .i64 r.a) h.c1 (n 1 0 (by decide));have p2:=qj (u:=.int .i64 r.a) h.c2 (n 2 0 (by decide));have p3:=qj (u:=.int .i64 r.a) h.c3 (n 3 0 (by decide));have far:∀(i:Nat) (v:Value),4<=i->W.cell? ⟨b,i,none⟩=some v->(qdP W b r).cell? ⟨b,i,none⟩=some v:=fun i v hi hc=>qj (qj (qj (qj hc (n i 0 (by omega))) (n i 1 (by omega))) (n i 2 (by omega))) (n i 3 (by omega));refine⟨?_,?_,?_,?_,far 4 _ (by omega) h.c4,far 5 _ (by omega) h.c5,far 6 _ (by omega) h.c6,far 7 _ (by omega) h.c7,far 8 _ (by omega) h.c8,?_,?_,?_,?_⟩
 ·exact qj (qj (qj s0 (n 0 1 (by decide))) (n 0 2 (by decide))) (n 0 3 (by decide))
 ·exact qj (qj (qA (qL p1)) (n 1 2 (by decide))) (n 1 3 (by decide))
 ·exact qj (qA (qL (qj (u:=.int .i64 r.b) p2 (n 2 1 (by decide))))) (n 2 3 (by decide))
 ·exact qA (qL (qj (u:=.int .i64 r.c) (qj (u:=.int .i64 r.b) p3 (n 3 1 (by decide))) (n 3 2 (by decide))))
 ·unfold qdP;simpa using h.f0
 ·unfold qdP;simpa using h.f1
 ·unfold qdP;simpa using h.f2
 ·unfold qdP;simpa using h.f3
theorem qaN(D:DayM)(M:Nat)(A:Nat->Prop)(w0 w:World)(h:St D M A w0 w)(hA:∀b,A b->b<w.heap.size)(l:List PastM)(a:Option Addr)(c:Nat)(hlen:l.length<=81)(hlc:l.length<=c)(hr:qi w 4 Zx a l)(hle:∀p∈l,p.le 6)(z more:PastM)(hmo:more.le 3) :
 Calls qp 96 #[dm D (some M),.slice a l.length c,.agg #[.int .i64 z.a,.int .i64 z.b,.int .i64 z.c,.int .i64 z.d,.int .u64 0,.int .i64 (-1),.int .i64 0,.int .i64 0,.int .i64 0],.agg #[.int .i64 more.a,.int .i64 more.b,.int .i64 more.c,.int .i64 more.d]] w fun e w'=>e=.returned (.int .i64 (yN D l more))/\St D M A w0 w'/\w.grownBy w' (some M):=by
 obtain⟨W0,hW0⟩:∃W0,((w.alloc (Obj.cells #[.slice D.ta D.ts.length D.tc,.slice D.ga D.gs.length D.gc,.slice D.oa D.os.length D.oc,.slice D.ha D.hs.length D.hc,.slice D.ca D.cs.length D.cc,.map (some M)] 73)).alloc (Obj.cells #[.int .i64 z.a,.int .i64 z.b,.int .i64 z.c,.int .i64 z.d,.int .u64 0,.int .i64 (-1),.int .i64 0,.int .i64 0,.int .i64 0] 86)).alloc (Obj.cells #[.int .i64 more.a,.int .i64 more.b,.int .i64 more.c,.int .i64 more.d] 81)=W0:=⟨_,rfl⟩;have hB0:Below w.heap.size w W0:=by subst hW0;go_grown
 have hs0:W0.heap.size=w.heap.size+3:=by subst hW0;simp
 have hd0:B6 W0 w.heap.size (.slice D.ta D.ts.length D.tc) (.slice D.ga D.gs.length D.gc) (.slice D.oa D.os.length D.oc) (.slice D.ha D.hs.length D.hc) (.slice D.ca D.cs.length D.cc) (.map (some M)):=by subst hW0;exact⟨by go_cell,by go_cell,by go_cell,by go_cell,by go_cell,by go_cell⟩
 have hx0:SX W0 (w.heap.size+1) z:=by subst hW0;exact⟨by go_cell,by go_cell,by go_cell,by go_cell,by go_cell,by go_cell,by go_cell,by go_cell,by go_cell,by go_cell,by go_cell,by go_cell,by go_cell⟩
 have hm0:PB W0 (w.heap.size+1+1) more:=by subst hW0;exact PB.of (by go_cell) (by go_cell) (by go_cell) (by go_cell) (by go_cell) (by go_cell) (by go_cell) (by go_cell)
 have hml:=h.kn.lt;have HST:=qd h;have HA:=qd hA;have HR:=qd hr;have HLE:=qd hle;have HMO:=qd hmo;have HD:=qd hd0;have HX0:=qd hx0;have HM0:=qd hm0;have HB0:=qd hB0;have hw0:=h.bel.size;clear h hA hr hle hmo hd0 hx0 hm0 hB0;unfold dm;go_enter (sf 96 f96),ntmps96;go_wp2;try rw[hW0]
 clear hW0;go_loopw [15,9] (fun i2 u wr=>∃(k m:Nat),i2=.int .i64 k/\u=.int .i64 m/\k<=l.length/\Hid (St D M (fun b=>A b\/b=w.heap.size+1) w0 wr)/\Hid (w.grownBy wr (some M))/\Hid (∃q,SX wr (w.heap.size+1) q)/\Hid (Mod (fun b=>b=M\/b=w.heap.size+1) W0 wr)/\Hid (m=yN D (l.take k) more)) (fun i2 _ _=>l.length-(intOf i2).toNat);case atStart=>exact⟨0,0,rfl,rfl,Nat.zero_le _,qd ((HST.out.mod (S:=fun _=>False) (Mod.refl _ _) (fun _ e=>e.elim) (fun b hb=>by rcases hb with hb|hb;exact .inl hb;exact .inr (by omega))).keep HB0.out),qd (qo HB0.out),qd ⟨_,HX0.out⟩,qd (Mod.refl _ _),qd rfl⟩
 case round =>
  obtain⟨k,m,rfl,rfl,hk,HS,HG,HQ,HMD,HM⟩:=hrel;have hsz:=HMD.out.size;by_cases hlt:k<l.length
  ·have hrR:=HST.out.rows HG.out HR.out;obtain⟨b,o,rfl,hP⟩:=hrR (by omega);obtain⟨p,hp⟩:∃p,l[k]? = some p:=⟨l[k],by simp[hlt]⟩;have c0:=hP k p hp 0 _ rfl;have c1:=hP k p hp 1 _ rfl;have c2:=hP k p hp 2 _ rfl;have c3:=hP k p hp 3 _ rfl;simp only[Nat.add_zero]at c0;have hkc:(k:Int)<=(c:Int):=(by omega);have hlp:=HLE.out p (qI hp);obtain⟨q,hq⟩:=HQ.out;have HSX:=qd hq;have hdW:=HD.out.mod HMD.out (show ¬(w.heap.size=M\/w.heap.size=w.heap.size+1) by omega);have hmW:=HM0.out.mod HMD.out (show ¬(w.heap.size+1+1=M\/w.heap.size+1+1=w.heap.size+1) by omega);have HPK:=qd (qg hp hlp);have HDW:=qd hdW;have HMW:=qd hmW;clear hP hp hlp hq hdW hmW hrR;go_upto_region 5 with fail;obtain⟨W,hW⟩:∃W,wr.alloc (Obj.cells #[.int .i64 p.a,.int .i64 p.b,.int .i64 p.c,.int .i64 p.d] 81)=W:=⟨_,rfl⟩;have hBW:Below wr.heap.size wr W:=(by subst hW;go_grown);have hsW:W.heap.size=wr.heap.size+1:=(by subst hW;simp);have hq:PB W wr.heap.size p:=(by subst hW;exact PB.of (by go_cell) (by go_cell) (by go_cell) (by go_cell) (by go_cell) (by go_cell) (by go_cell) (by go_cell));rw[hW];obtain⟨m0,m1,m2,m3⟩:=(HMW.out.keep hBW).four;have HPB:=qd hq;have HBW:=qd hBW;clear hW hq hBW c0 c1 c2 c3;by_cases hz:more=yA
   ·subst hz;simp only[yA]at m0 m1 m2 m3;have hneq:=fun X=>qcq 0 0 0 0 0 0 0 0 X;simp only[beq_self_eq_true,Bool.and_true,Bool.not_true]at hneq;have hp4:p.add yA=p:=PastM.add_zero p;have HPX:Hid (PB W wr.heap.size (p.add yA)):=qd (by rw[hp4];exact HPB.out);have HMX:Hid (Mod (fun b=>b=wr.heap.size) W W):=qd (Mod.refl _ _);clear hp4;go_upto_region 11 with fail;obtain⟨X,hX⟩:∃X,X=W:=⟨_,rfl⟩;rw[<-hX]at HPX HMX⊢;have HMX:Hid (Mod (fun b=>b=wr.heap.size) W X):=qd (by rw[hX];exact Mod.refl _ _);have hszX:X.heap.size=wr.heap.size+1:=(by rw[hX];exact hsW);clear hX;have hBX:Below wr.heap.size wr X:=HBW.out.trans (HMX.out.keep (by omega) (fun b hb=>by omega));have hsX:=hBX.size;have hxX:=(HSX.out.keep hBX);have hst11:=HS.out.keep hBX;have hmod11:Mod (fun b=>b=M\/b=w.heap.size+1) W0 X:=HMD.out.trans (Mod.below hBX);obtain⟨p0,p1,p2,p3⟩:=HPX.out.four;have HX:=qd hxX;have hrle:(p.add yA).le 9:=(by have h9:=PastM.le_add HPK.out.2 HMO.out;exact fun g=>by have:=h9 g;omega);obtain⟨r,hr⟩:∃r,p.add yA=r:=⟨_,rfl⟩;rw[hr]at p0 p1 p2 p3 hrle;have HRR:=qd hr;have HST11:=qd (qg hst11 (qg hmod11 hBX));obtain⟨x0,x1,x2,x3,-,-,-,-,-,g0,g1,g2,g3⟩:=hxX;have hwlt:w.heap.size+1<X.heap.size:=(by omega);clear hst11 hmod11 hBX hr;go_upto_region 12 with fail;have hY:=HX.out.put r;have hYm:=qcu X (w.heap.size+1) r;obtain⟨Y,hYe⟩:∃Y,qdP X (w.heap.size+1) r=Y:=⟨_,rfl⟩;rw[hYe]at hY hYm;unfold qdP at hYe;rw[hYe];have hstY:=HST11.out.1.mod (A':=fun b=>A b\/b=w.heap.size+1) hYm (fun b hb=>⟨.inr hb,by omega,by omega⟩) (fun b hb=>.inl hb)
    have hmY:Mod (fun b=>b=M\/b=w.heap.size+1) W0 Y:=HST11.out.2.1.trans (hYm.mono (fun b e=>.inr e));have hgY:w.grownBy Y (some M):=zU (qw HG.out (qo HST11.out.2.2)) hYm (fun b hb=>by omega);have hlo:=Jr D M _ w0 Y hstY (setOf r) (by simp[setOf]) (fun g=>by have:=hrle g;show 0<=r.get g/\r.get g<=100;omega) (by simp[setOf]) (fun b hb=>by have:=hYm.size;rcases hb with hb|hb;have:=HA.out b hb;omega;omega);rw[qco]at hlo;unfold dm at hlo;simp only[zf]at hlo;simp only[show(setOf r).p=r from rfl,show(setOf r).away=0 from rfl,show(setOf r).order=-1 from rfl,show(setOf r).t0=0 from rfl,show(setOf r).t1=0 from rfl,show(setOf r).t2=0 from rfl]at hlo;have hdY:=(HDW.out.mod (Mod.below HST11.out.2.2 (S:=fun b=>b=w.heap.size+1)) (by omega)).mod hYm (show ¬w.heap.size=w.heap.size+1 by omega);obtain⟨d0,d1,d2,d3,d4,d5⟩:=hdY;have hYs:=hYm.size;have HY:=qd hY;obtain⟨y0,y1,y2,y3,y4,y5,y6,y7,y8,-,-,-,-⟩:=hY;have HF:=qd (qg hgY hmY);have hwn:yN D (l.take (k+1)) yA=max m (qbo D (setOf r)):=(by rw[List.take_add_one,HPK.out.1,<-HRR.out];show yN D (l.take k++[p]) yA=_;rw[XW,<-HM.out]);have HWN:=qd hwn;obtain⟨n,hn⟩:∃n,qbo D (setOf r)=n:=⟨_,rfl⟩;rw[hn]at hlo HWN;clear hYe hYm hstY hmY hgY hwn p0 p1 p2 p3 x0 x1 x2 x3 g0 g1 g2 g3 hrle hneq m0 m1 m2 m3 hn;have hmx:Value.int .i64 (max (m:Int) (n:Int))=.int .i64 ((max m n:Nat):Int):=(by rw[qcp]);go_wp2_with (go_at_call 65;(with_reducible refine hlo.mono ?_);rintro e Z ⟨rfl,hst5,hg5⟩);have hmZ:=Mod.grown hg5 (S:=fun b=>b=M) (fun b e=>(qz e).symm);go_roundw;case rel=>exact⟨k+1,max m n,rfl,(by first|rfl|exact hmx),by omega,qd hst5,qd (qw HF.out.1 hg5),qd ⟨r,HY.out.mod hmZ (show ¬w.heap.size+1=M by omega)⟩,qd (HF.out.2.trans (hmZ.mono (fun b e=>.inl e))),qd HWN.out.symm⟩
    case measure=>simp[intOf];omega
   ·have hneq:=fun X=>qcq more.a more.b more.c more.d 0 0 0 0 X
    have hnb:(!(more.a==0&&(more.b==0&&(more.c==0&&(more.d==0&&true)))))=true:=by
     obtain⟨ma,mb,mc,md⟩:=more;simp only[yA,PastM.mk.injEq]at hz;simp only;by_cases h1:ma=0<;>by_cases h2:mb=0<;>by_cases h3:mc=0<;>by_cases h4:md=0<;>simp_all
    simp only[hnb]at hneq;clear hnb;have hmle:=HMO.out;have hple:=HPK.out.2;have HLL:=qd (qg hmle hple);clear hmle hple;go_wp2;obtain⟨WR,hWR⟩:∃WR,WR=wr:=⟨_,rfl⟩;subst hWR;go_loopw [22] (fun i3 wx=>∃(j:Nat) (q5:PastM),i3=.int .i64 j/\j<=4/\Hid (PB wx WR.heap.size q5)/\Hid (Mod (fun b=>b=WR.heap.size) W wx)/\Hid (∀g,g<4->q5.get g=if g<j then p.get g+more.get g else p.get g)) (fun i3 _=>4-(intOf i3).toNat);case atStart=>exact⟨0,p,rfl,by omega,HPB,qd (Mod.refl _ _),qd (fun g _=>by rw[if_neg (by omega)])⟩
    case round =>
     obtain⟨j,q5,rfl,hj,HP5,HM5,HQ5⟩:=hrel;by_cases hj4:j<4
     ·have e0:=HP5.out.c j hj4;have f0:=HP5.out.f j hj4;have e1:=(HMW.out.keep HBW.out).mod HM5.out (show ¬w.heap.size+1+1=WR.heap.size by omega);have e1:=e1.c j hj4;have hq5:q5.get j=p.get j:=(by have h:=HQ5.out j hj4;rwa[if_neg (by omega)]at h);rw[hq5]at e0;have hj0:(0:Int)<=(j:Int):=Int.natCast_nonneg j;have hji:(j:Int)<4:=(by omega);have hwr:wrap64 (p.get j+more.get j)=p.get j+more.get j:=wrap_le (HLL.out.2 j) (HLL.out.1 j);have hwlx:=lt_of_cell e0;simp only at hwlx;go_upto_region 9 with fail;go_region
      all_goals
       go_wp2;go_roundw
       case rel =>
        refine⟨j+1,q5.set j (p.get j+more.get j),rfl,by omega,qd ?_,qd ?_,qd (fun g hg=>?_)⟩
        ·first|exact(HP5.out.keep ((Below.refl _ wr).drew)).put hj4 _|exact HP5.out.put hj4 _|exact(HP5.out.put hj4 _).keep ((Below.refl _ _).drew)
        ·first|exact(HM5.out.trans (Mod.below ((Below.refl _ wr).drew))).put ⟨WR.heap.size,j,none⟩ _ rfl|exact HM5.out.put ⟨WR.heap.size,j,none⟩ _ rfl|exact(HM5.out.put ⟨WR.heap.size,j,none⟩ _ rfl).trans (Mod.below ((Below.refl _ _).drew))
        ·by_cases e:g=j
         ·subst e;rw[PastM.get_set _ hg,if_pos (by omega)]
         ·rw[PastM.get_set_ne _ hj4 hg e,HQ5.out g hg];by_cases h1:g<j
          ·rw[if_pos h1,if_pos (by omega)]
          ·rw[if_neg h1,if_neg (by omega)]
       case measure=>simp[intOf];omega
     ·obtain rfl:j=4:=(by omega);have hq6:q5=p.add more:=PastM.same fun g hg=>(by rw[HQ5.out g hg,if_pos hg,PastM.add_get]);rw[hq6]at HP5;clear hq6 HQ5 hj4 hj;obtain⟨X,hX⟩:∃X,X=wr:=⟨_,rfl⟩;subst hX;obtain⟨wr,hX⟩:∃X,X=WR:=⟨_,rfl⟩;subst hX;have HPX:=HP5;have HMX:=HM5;go_upto_region 11 with fail;have hBX:Below wr.heap.size wr X:=HBW.out.trans (HMX.out.keep (by omega) (fun b hb=>by omega));have hsX:=hBX.size;have hxX:=(HSX.out.keep hBX);have hst11:=HS.out.keep hBX;have hmod11:Mod (fun b=>b=M\/b=w.heap.size+1) W0 X:=HMD.out.trans (Mod.below hBX);obtain⟨p0,p1,p2,p3⟩:=HPX.out.four;have HX:=qd hxX;have hrle:(p.add more).le 9:=(by have h9:=PastM.le_add HPK.out.2 HMO.out;exact fun g=>by have:=h9 g;omega);obtain⟨r,hr⟩:∃r,p.add more=r:=⟨_,rfl⟩;rw[hr]at p0 p1 p2 p3 hrle;have HRR:=qd hr;have HST11:=qd (qg hst11 (qg hmod11 hBX));obtain⟨x0,x1,x2,x3,-,-,-,-,-,g0,g1,g2,g3⟩:=hxX;have hwlt:w.heap.size+1<X.heap.size:=(by omega);clear hst11 hmod11 hBX hr;go_upto_region 12 with fail;have hY:=HX.out.put r;have hYm:=qcu X (w.heap.size+1) r;obtain⟨Y,hYe⟩:∃Y,qdP X (w.heap.size+1) r=Y:=⟨_,rfl⟩;rw[hYe]at hY hYm;unfold qdP at hYe;rw[hYe];have hstY:=HST11.out.1.mod (A':=fun b=>A b\/b=w.heap.size+1) hYm (fun b hb=>⟨.inr hb,by omega,by omega⟩) (fun b hb=>.inl hb);have hmY:Mod (fun b=>b=M\/b=w.heap.size+1) W0 Y:=HST11.out.2.1.trans (hYm.mono (fun b e=>.inr e));have hgY:w.grownBy Y (some M):=zU (qw HG.out (qo HST11.out.2.2)) hYm (fun b hb=>by omega);have hlo:=Jr D M _ w0 Y hstY (setOf r) (by simp[setOf]) (fun g=>by have:=hrle g;show 0<=r.get g/\r.get g<=100;omega) (by simp[setOf]) (fun b hb=>by have:=hYm.size;rcases hb with hb|hb;have:=HA.out b hb;omega;omega)
      rw[qco]at hlo;unfold dm at hlo;simp only[zf]at hlo;simp only[show(setOf r).p=r from rfl,show(setOf r).away=0 from rfl,show(setOf r).order=-1 from rfl,show(setOf r).t0=0 from rfl,show(setOf r).t1=0 from rfl,show(setOf r).t2=0 from rfl]at hlo;have hdY:=(HDW.out.mod (Mod.below HST11.out.2.2 (S:=fun b=>b=w.heap.size+1)) (by omega)).mod hYm (show ¬w.heap.size=w.heap.size+1 by omega);obtain⟨d0,d1,d2,d3,d4,d5⟩:=hdY;have hYs:=hYm.size;have HY:=qd hY;obtain⟨y0,y1,y2,y3,y4,y5,y6,y7,y8,-,-,-,-⟩:=hY;have HF:=qd (qg hgY hmY);have hwn:yN D (l.take (k+1)) more=max m (qbo D (setOf r)):=(by rw[List.take_add_one,HPK.out.1,<-HRR.out];show yN D (l.take k++[p]) more=_;rw[XW,<-HM.out]);have HWN:=qd hwn;obtain⟨n,hn⟩:∃n,qbo D (setOf r)=n:=⟨_,rfl⟩;rw[hn]at hlo HWN;clear hYe hYm hstY hmY hgY hwn p0 p1 p2 p3 x0 x1 x2 x3 g0 g1 g2 g3 hrle hneq m0 m1 m2 m3 hn;have hmx:Value.int .i64 (max (m:Int) (n:Int))=.int .i64 ((max m n:Nat):Int):=(by rw[qcp]);go_wp2_with (go_at_call 65;(with_reducible refine hlo.mono ?_);rintro e Z ⟨rfl,hst5,hg5⟩);have hmZ:=Mod.grown hg5 (S:=fun b=>b=M) (fun b e=>(qz e).symm);go_roundw;(case rel=>exact⟨k+1,max m n,rfl,(by first|rfl|exact hmx),by omega,qd hst5,qd (qw HF.out.1 hg5),qd ⟨r,HY.out.mod hmZ (show ¬w.heap.size+1=M by omega)⟩,qd (HF.out.2.trans (hmZ.mono (fun b e=>.inl e))),qd HWN.out.symm⟩);case measure=>simp[intOf];omega
  ·obtain rfl:k=l.length:=(by omega);have hM:=HM.out;rw[List.take_length]at hM;have HMM:=qd hM;clear hM;go_wp2;go_ret;exact⟨by rw[HMM.out];rfl,HS.out.mod (S:=fun _=>False) (Mod.refl _ _) (fun _ e=>e.elim) (fun b hb=>.inl (.inl hb)),HG.out⟩
theorem nt_tried:qfS.ntmps=17:=rfl
@[go_sem] theorem c_tried (args:Array Value) (w:World):(callFunc 71 args).run qp w=.ok (.enter 71 args) w:=Go.Sim.enter_of Zk (by kernel_rfl) (by kernel_rfl) args w
theorem re_tried:qfS.results=#[.tmp 8]:=by kernel_rfl
theorem qaI(D:DayM)(m:Option Nat)(w:World)(h:DayAt w D)(hs:DaySm D)(hz:checkN D=0)(l:List PastM)(a:Option Addr)(c:Nat)(hlen:l.length<=81)(hlc:l.length<=c)(hr:qi w 4 Zx a l)(hle:∀p∈l,p.le 6)(z more:PastM)(hmo:more.le 3) :
 Calls qp 71 #[dm D m,.slice a l.length c,.agg #[.int .i64 z.a,.int .i64 z.b,.int .i64 z.c,.int .i64 z.d,.int .u64 0,.int .i64 (-1),.int .i64 0,.int .i64 0,.int .i64 0],.agg #[.int .i64 more.a,.int .i64 more.b,.int .i64 more.c,.int .i64 more.d]] w fun e w'=>e=.returned (.int .i64 (yN D l more))/\Below w.heap.size w w':=by
 obtain⟨W,hW⟩:∃W,(((w.alloc (Obj.cells #[.slice D.ta D.ts.length D.tc,.slice D.ga D.gs.length D.gc,.slice D.oa D.os.length D.oc,.slice D.ha D.hs.length D.hc,.slice D.ca D.cs.length D.cc,.map m] 73)).alloc (Obj.cells #[.slice a l.length c] 74)).alloc (Obj.cells #[.int .i64 z.a,.int .i64 z.b,.int .i64 z.c,.int .i64 z.d,.int .u64 0,.int .i64 (-1),.int .i64 0,.int .i64 0,.int .i64 0] 86)).alloc (Obj.cells #[.int .i64 more.a,.int .i64 more.b,.int .i64 more.c,.int .i64 more.d] 81)=W:=⟨_,rfl⟩;have hBW:Below w.heap.size w W:=by subst hW;go_grown
 have hsW:W.heap.size=w.heap.size+4:=by subst hW;simp
 have hmk:=qal W;have hGM:=Qu.new (enc:=zf) W;have hBm:=(Below.refl W.heap.size W).alloc ql (Obj.map #[] 0);have hx0:SX W (w.heap.size+1+1) z:=by subst hW;exact⟨by go_cell,by go_cell,by go_cell,by go_cell,by go_cell,by go_cell,by go_cell,by go_cell,by go_cell,by go_cell,by go_cell,by go_cell,by go_cell⟩
 have hm0:PB W (w.heap.size+1+1+1) more:=by subst hW;exact PB.of (by go_cell) (by go_cell) (by go_cell) (by go_cell) (by go_cell) (by go_cell) (by go_cell) (by go_cell)
 have k0:W.cell? ⟨w.heap.size,0,none⟩=some (.slice D.ta D.ts.length D.tc):=by subst hW;go_cell
 have k1:W.cell? ⟨w.heap.size,1,none⟩=some (.slice D.ga D.gs.length D.gc):=by subst hW;go_cell
 have k2:W.cell? ⟨w.heap.size,2,none⟩=some (.slice D.oa D.os.length D.oc):=by subst hW;go_cell
 have k3:W.cell? ⟨w.heap.size,3,none⟩=some (.slice D.ha D.hs.length D.hc):=by subst hW;go_cell
 have k4:W.cell? ⟨w.heap.size,4,none⟩=some (.slice D.ca D.cs.length D.cc):=by subst hW;go_cell
 have hl0:W.cell? ⟨w.heap.size+1,0,none⟩=some (.slice a l.length c):=by subst hW;go_cell
 obtain⟨X,hX⟩:∃X,W.alloc (Obj.map #[] 0)=X:=⟨_,rfl⟩;rw[hX]at hmk hGM hBm;rw[hsW]at hmk hGM;have hBX:=bcl hBW hBm;have hst:St D (w.heap.size+4) (fun _=>False) w X:=St.open h hs hz hBX (by omega) hGM;have hwo:=qaN D (w.heap.size+4) (fun _=>False) w X hst (fun b hb=>hb.elim) l a c hlen hlc (hr.keep hBX) hle z more hmo;unfold dm at hwo⊢;obtain⟨m0,m1,m2,m3⟩:=(hm0.keep hBm).four;obtain⟨x0,x1,x2,x3,x4,x5,x6,x7,x8,-,-,-,-⟩:=hx0.keep hBm;have k0:=qb _ hBm k0;have k1:=qb _ hBm k1;have k2:=qb _ hBm k2;have k3:=qb _ hBm k3;have k4:=qb _ hBm k4;have hl0:=qb _ hBm hl0;have HF:=qd hBX;clear h hs hz hr hle hGM hBm hx0 hm0 hX hBX hst;go_enter Zk,nt_tried;unfold QO sO op2;go_wp2_with (go_at_call 96;(with_reducible refine hwo.mono ?_);rintro e w1 ⟨rfl,hst1,hg1⟩);refine bodyPost_ret (results_tmp re_tried _ _ _) rfl ⟨rfl,hst1.bel⟩
abbrev oneP(i:Nat):PastM:=yA.set i 1
theorem oneP_le{i:Nat}(hi:i<4):(oneP i).le 3:=PastM.le_set (Yx (by decide)) hi ⟨by decide,by decide⟩
theorem qfl(D:DayM)(m:Option Nat)(w:World)(h:DayAt w D)(hs:DaySm D)(hz:checkN D=0)(db lb sb:Nat)(hd:B6 w db (.slice D.ta D.ts.length D.tc) (.slice D.ga D.gs.length D.gc) (.slice D.oa D.os.length D.oc) (.slice D.ha D.hs.length D.hc) (.slice D.ca D.cs.length D.cc) (.map m))(a:Option Addr)(c:Nat)(hlc:(qx D).length<=c)(hr:qi w 4 Zx a (qx D))
 (hl:w.cell? ⟨lb,0,none⟩=some (.slice a (qx D).length c)) (z:PastM) (hx:SX w sb z) (i:Nat) (hi:i<4) :
 Calls qp 72 #[.int .i64 i,pt db,pt lb,pt sb] w fun e w'=>e=.returned (.int .i64 (yN D (qx D) (oneP i)))/\Below w.heap.size w w':=by
 have hN:=zb hz;have htr:=fun X (hX:Below w.heap.size w X)=>qaI D m X (h.keep hX) hs hz (qx D) a c (by omega) hlc (hr.keep hX) (Jy hz) z (oneP i) (oneP_le hi);have HT:=qd htr;have hi0:(0:Int)<=(i:Int):=Int.natCast_nonneg i;have hi4:(i:Int)<4:=by omega
 have HD:=qd hd;have HX:=qd hx;have HL:=qd hl;clear h hs hz hr htr;obtain⟨W,hW⟩:∃W,w.alloc (Obj.cells #[.int .i64 0,.int .i64 0,.int .i64 0,.int .i64 0] 81)=W:=⟨_,rfl⟩;have hBW:Below w.heap.size w W:=by subst hW;go_grown
 have hp0:PB W w.heap.size ⟨0,0,0,0⟩:=by subst hW;exact PB.of (by go_cell) (by go_cell) (by go_cell) (by go_cell) (by go_cell) (by go_cell) (by go_cell) (by go_cell)
 have hp0:PB W w.heap.size yA:=hp0;go_enter (sf 72 f72),ntmps72;go_upto_region 2 with fail;try rw[hW]
 have ci:=hp0.c i hi;have fi:=hp0.f i hi;clear hW hd hx hl;go_upto_region 3 with fail;have hp1:=hp0.put hi 1;have hB1:Below w.heap.size w (W.setCell ⟨w.heap.size,i,none⟩ (.int .i64 1)):=hBW.setCell (p:=⟨w.heap.size,i,none⟩) ql _;obtain⟨X,hX⟩:∃X,W.setCell ⟨w.heap.size,i,none⟩ (.int .i64 1)=X:=⟨_,rfl⟩;try rw[hX]
 rw[hX]at hp1 hB1;have ht:=HT.out X hB1;unfold dm at ht;obtain⟨p0,p1,p2,p3⟩:=hp1.four;obtain⟨d0,d1,d2,d3,d4,d5⟩:=HD.out.keep hB1;obtain⟨x0,x1,x2,x3,x4,x5,x6,x7,x8,-,-,-,-⟩:=HX.out.keep hB1;have hl1:=qb _ hB1 HL.out;clear hX ci fi hp0 hp1 hBW;go_wp2_with (go_at_call 71;(with_reducible refine ht.mono ?_);rintro e w1 ⟨rfl,hB2⟩);go_ret;exact⟨rfl,Below.call hB1 hB2 (by have:=hB1.size;omega)⟩
def moreN(D:DayM):Int×Int:=qeb (fun i=>yN D (qx D) (oneP i.toNat)) (Qx D.gs.length) (yN D (qx D) yA)
theorem more_top(D:DayM)(w:World)(h:DayAt w D)(hs:DaySm D)(hG:Globs w):Calls qp 20 #[dv D] w (TwoP (zt D 0) (moreN D) w):=by
 obtain⟨W,hW⟩:∃W,w.alloc (Obj.cells #[.slice D.ta D.ts.length D.tc,.slice D.ga D.gs.length D.gc,.slice D.oa D.os.length D.oc,.slice D.ha D.hs.length D.hc,.slice D.ca D.cs.length D.cc] 28)=W:=⟨_,rfl⟩;have hBW:Below w.heap.size w W:=by subst hW;go_grown
 have hsW:W.heap.size=w.heap.size+1:=by subst hW;simp
 have k0:W.cell? ⟨w.heap.size,0,none⟩=some (.slice D.ta D.ts.length D.tc):=by subst hW;go_cell
 have k1:W.cell? ⟨w.heap.size,1,none⟩=some (.slice D.ga D.gs.length D.gc):=by subst hW;go_cell
 have k2:W.cell? ⟨w.heap.size,2,none⟩=some (.slice D.oa D.os.length D.oc):=by subst hW;go_cell
 have k3:W.cell? ⟨w.heap.size,3,none⟩=some (.slice D.ha D.hs.length D.hc):=by subst hW;go_cell
 have k4:W.cell? ⟨w.heap.size,4,none⟩=some (.slice D.ca D.cs.length D.cc):=by subst hW;go_cell
 have hask:=yF D W (h.keep hBW) hs (hG.keep hBW) 63 #[] (cE 63 (by decide +kernel)) 0 (fun M V hM hB=>by unfold dm;exact yV _ _ _ _ _ _ V);have hdv:dv D=.agg #[.slice D.ta D.ts.length D.tc,.slice D.ga D.gs.length D.gc,.slice D.oa D.os.length D.oc,.slice D.ha D.hs.length D.hc,.slice D.ca D.cs.length D.cc]:=rfl;rw[hdv]at hask⊢;have HD:=qd (qg h hs);unfold TwoP;clear h hs hG hdv;by_cases ha:zt D 0=0
 ·have hz:=yj ha;have hok:=hask.mono (fun e w' h=>h.ok ha);have HA:=qd ha;have HZ:=qd hz.1;clear hask ha hz;have has:=fun X=>zX yA X;unfold pvP at has;have HAS:=qd has;clear has;go_enter (sf 20 f20),ntmps20;go_upto_region 1 with fail;try rw[hW]
  clear hW;unfold dm at hok;go_upto_region 4 with(go_at_call 42;(with_reducible refine hok.mono ?_);rintro e w1 ⟨M,a,c,rfl,hpos,hlc,hrow,hfr,hst⟩;have hs1:=hst.bel.size);have hML:=hst.kn.lt;obtain⟨V2,hV2⟩:∃V2,(w1.alloc (Obj.cells #[.slice D.ta D.ts.length D.tc,.slice D.ga D.gs.length D.gc,.slice D.oa D.os.length D.oc,.slice D.ha D.hs.length D.hc,.slice D.ca D.cs.length D.cc,.map (some M)] 73)).alloc (Obj.cells #[.slice a (qx D).length c] 74)=V2:=⟨_,rfl⟩;have hBV:Below w1.heap.size w1 V2:=by subst hV2;go_grown
  have h7:B6 V2 w1.heap.size (.slice D.ta D.ts.length D.tc) (.slice D.ga D.gs.length D.gc) (.slice D.oa D.os.length D.oc) (.slice D.ha D.hs.length D.hc) (.slice D.ca D.cs.length D.cc) (.map (some M)):=by subst hV2;exact⟨by go_cell,by go_cell,by go_cell,by go_cell,by go_cell,by go_cell⟩
  have hl7:V2.cell? ⟨w1.heap.size+1,0,none⟩=some (.slice a (qx D).length c):=by subst hV2;go_cell
  have hszV:V2.heap.size=w1.heap.size+2:=by subst hV2;simp
  obtain⟨T,hT⟩:∃T,w1.heap.size=T:=⟨_,rfl⟩;try rw[hV2]
  have hsV:=hst.keep hBV;have hrV:=hrow.keep hBV;rw[hT]at h7 hl7 hML hszV⊢;have H7:=qd (qg h7 (qg hl7 (qg hsV hrV)));have HBW:=qd hBW;clear hBV hV2 hrow hrV hst hok hfr k0 k1 k2 k3 k4 h7 hl7 hsV hBW;have hasV:=HAS.out V2;simp only[yA,zf,setOf]at hasV;go_upto_region 5 with(go_at_call 48;(with_reducible refine hasV.mono ?_);rintro e w2 ⟨rfl,hB2⟩;have hs2:=hB2.size);obtain⟨V3,hV3⟩:∃V3,w2.alloc (Obj.cells #[.int .i64 0,.int .i64 0,.int .i64 0,.int .i64 0,.int .u64 0,.int .i64 (-1),.int .i64 0,.int .i64 0,.int .i64 0] 86)=V3:=⟨_,rfl⟩;have hB3:Below V2.heap.size V2 V3:=bcl hB2 (by subst hV3;go_grown);have hx3:SX V3 w2.heap.size ⟨0,0,0,0⟩:=by subst hV3;exact⟨by go_cell,by go_cell,by go_cell,by go_cell,by go_cell,by go_cell,by go_cell,by go_cell,by go_cell,by go_cell,by go_cell,by go_cell,by go_cell⟩
  have hz3:V3.heap.size=w2.heap.size+1:=by subst hV3;simp
  obtain⟨B,hB⟩:∃B,w2.heap.size=B:=⟨_,rfl⟩;try rw[hV3]
  rw[hB]at hx3 hz3 hs2⊢;have h73:=H7.out.1.keep hB3;have hl3:=qb _ hB3 H7.out.2.1;have hs3:=H7.out.2.2.1.keep hB3;have hr3:=H7.out.2.2.2.keep hB3;have hg4:=(qY D HZ.out).gs;have hup:=fun X=>qcA D.gs.length (by omega) X;have htr:=fun X (hX:Below V3.heap.size V3 X)=>qaI D (some M) X (hs3.keep hX).day HD.out.2 HZ.out (qx D) a c (zb HZ.out) hlc (hr3.keep hX) (Jy HZ.out) ⟨0,0,0,0⟩ yA (Yx (by decide))
  have hbe:=fun X (hX:Below V3.heap.size V3 X) (g:Nat) (hg:qi X 1 encI (some ⟨g,0,none⟩) (Qx D.gs.length))=>qbW 72 #[pt T,pt (T+1),pt B] (cE 72 (by decide +kernel)) (fun i=>yN D (qx D) (oneP i.toNat)) (Qx D.gs.length) (some ⟨g,0,none⟩) D.gs.length (yN D (qx D) yA) (by rw[yL];omega) (by rw[yL];exact ql)
   (fun Y=>Below X.heap.size X Y) (fun Y hY=>hg.keep hY) X (Below.refl _ _) (fun i x hx Y hY=>by
     have hi:i<D.gs.length:=(by have:=(qB hx).1;rwa[yL]at this);rw[Xm hi]at hx;cases hx;have hXY:=bcl hX hY
     exact(qfl D (some M) Y (hs3.keep hXY).day HD.out.2 HZ.out T (T+1) B (h73.keep hXY) a c hlc (hr3.keep hXY) (qb _ hXY hl3) ⟨0,0,0,0⟩ (hx3.keep hXY) i (by omega)).mono fun e w' ⟨he,hB9⟩=>⟨he,bcl hY hB9⟩)
  rw[yL]at hbe;unfold dm at htr;simp only[yA]at htr hbe;have HF:=qd (qg HBW.out hs3);have HUP:=qd hup;have HBE:=qd hbe;have HTR:=qd htr;obtain⟨t0,t1,t2,t3,t4,t5⟩:=h73;obtain⟨y0,y1,y2,y3,y4,y5,y6,y7,y8,-,-,-,-⟩:=hx3;have hS:RH16 V3 ⟨T,0,none⟩ ⟨T,1,none⟩ ⟨T,2,none⟩ ⟨T,3,none⟩ ⟨T,4,none⟩ ⟨T,5,none⟩ ⟨T+1,0,none⟩ ⟨B,0,none⟩ ⟨B,1,none⟩ ⟨B,2,none⟩ ⟨B,3,none⟩ ⟨B,4,none⟩ ⟨B,5,none⟩ ⟨B,6,none⟩ ⟨B,7,none⟩ ⟨B,8,none⟩ (.slice D.ta D.ts.length D.tc) (.slice D.ga D.gs.length D.gc) (.slice D.oa D.os.length D.oc) (.slice D.ha D.hs.length D.hc) (.slice D.ca D.cs.length D.cc) (.map (some M)) (.slice a (qx D).length c) (.int .i64 0) (.int .i64 0) (.int .i64 0) (.int .i64 0) (.int .u64 0) (.int .i64 (-1)) (.int .i64 0) (.int .i64 0) (.int .i64 0) V3:=⟨t0,t1,t2,t3,t4,t5,hl3,y0,y1,y2,y3,y4,y5,y6,y7,y8,Below.refl _ _⟩;clear hV3 hB2 hB3 hup hbe htr t0 t1 t2 t3 t4 t5 y0 y1 y2 y3 y4 y5 y6 y7 y8 hl3 hs3 hr3 hasV;refine wp_region_held_drew (S:=(RH16 V3 ⟨T,0,none⟩ ⟨T,1,none⟩ ⟨T,2,none⟩ ⟨T,3,none⟩ ⟨T,4,none⟩ ⟨T,5,none⟩ ⟨T+1,0,none⟩ ⟨B,0,none⟩ ⟨B,1,none⟩ ⟨B,2,none⟩ ⟨B,3,none⟩ ⟨B,4,none⟩ ⟨B,5,none⟩ ⟨B,6,none⟩ ⟨B,7,none⟩ ⟨B,8,none⟩ (.slice D.ta D.ts.length D.tc) (.slice D.ga D.gs.length D.gc) (.slice D.oa D.os.length D.oc) (.slice D.ha D.hs.length D.hc) (.slice D.ca D.cs.length D.cc) (.map (some M)) (.slice a (qx D).length c) (.int .i64 0) (.int .i64 0) (.int .i64 0) (.int .i64 0) (.int .u64 0) (.int .i64 (-1)) (.int .i64 0) (.int .i64 0) (.int .i64 0))) (by kernel_rfl) (by exact RHL.drew hS) (fun hHeld=>?_);refine tk 0 ?_
  refine tk 1 ?_;refine tk 2 ?_;refine tk 3 ?_;refine tk 5 ?_;refine tk 6 ?_;refine tk 7 ?_;refine tk 8 ?_;(refine tk 10 ?_;try simp only[zs,Act.put]);refine tkR 4 fun K hK=>?_;go_simp;go_wp2_with (go_at_call 70;(with_reducible refine(HUP.out _).mono ?_);rintro e X4 ⟨rfl,hrU,hB4⟩);refine hK.out _ _ (by exact RHL.call hHeld hB4) (fun hHeldN=>?_);clear hK K hHeld;have hHeld:=hHeldN;clear hHeldN;try simp only[zs,Act.put]
  refine tkR 9 fun K hK=>?_;go_simp;go_wp2_with (go_at_call 71;(with_reducible refine(HTR.out _ (RHL.bel hHeld)).mono ?_);rintro e X ⟨rfl,hB5⟩);refine hK.out _ _ (by exact RHL.call hHeld hB5) (fun hHeldN=>?_);clear hK K hHeld;have hHeld:=hHeldN;clear hHeldN;try simp only[zs,Act.put]
  have hrU2:qi X 1 encI (some ⟨V3.heap.size,0,none⟩) (Qx D.gs.length):=qi.keep hrU hB5;rw[hz3]at hrU2;have hcl:=HBE.out X (RHL.bel hHeld) _ hrU2;refine tkR 11 fun K hK=>?_;go_simp;go_wp2_with (go_at_call 69;(with_reducible refine hcl.mono ?_);rintro e Y ⟨rfl,hB9⟩);refine hK.out _ _ (by exact RHL.call hHeld hB9) (fun hHeldN=>?_);clear hK K hHeld;have hHeld:=hHeldN;clear hHeldN;try simp only[zs,Act.put]
  refine tk 12 ?_;refine tk 13 ?_;refine tk 14 ?_;refine tk 15 ?_;(refine tk 16 ?_;try simp only[zs,Act.put]);refine wpAnyH_done (by kernel_rfl) ?_ _;try simp only[zs,Act.put]
  have hBf:=RHL.bel hHeld;go_wp2
  go_ret3
  exact⟨Below.call (Below.call HF.out.1 HF.out.2.bel (by omega)) hBf (by have:=HF.out.2.bel.size;omega),.inr ⟨HA.out,rfl⟩⟩
 ·have hbad:=hask.mono (fun e w' h=>h.bad ha);have hb:(zt D 0 != 0)=true:=by simpa using ha
  unfold dz at hbad;have HA:=qd ha;clear hask ha
  generalize zt D 0=r at *
  go_enter (sf 20 f20),ntmps20;go_upto_region 1 with fail;try rw[hW]
  clear hW;go_wp2_with (go_at_call 42;(with_reducible refine hbad.mono ?_);rintro e w1 ⟨rfl,hB1⟩;have hs1:=hB1.size)
  go_ret3
  exact⟨Below.call hBW (by go_grown) (by omega),.inl ⟨HA.out,rfl⟩⟩
end Go.Proofs.Tryz
