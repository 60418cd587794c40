/-
  Lemmas about the program and the machine (D16 to AP), upon which the last text of this claim rests; no condition.
-/
import Derived.Laws.AppendOwnNone
import Derived.StillTail
import Derived.Test.YtjkbbnphdbgjiaaGreatDoorEz14
set_option linter.unusedSimpArgs false
set_option linter.unusedVariables false
set_option maxRecDepth 100000
set_option maxHeartbeats 4000000
namespace Go.Proofs.Tryz
open Go Go.Load Go.LoadR Go.RowKit
theorem qbv(D:DayM)(l:List Int)(la:Option Addr)(lc:Nat)(w:World)(h:DayAt w D)(hs:DaySm D)(hz:checkN D=0)(hll:l.length=D.gs.length)(hlc:l.length<=lc)(hl:qi w 1 encI la l)(hlp:∀x∈l,0<=x/\x<=100) :
 Calls qp 51 #[dv D,.slice la l.length lc] w fun e w'=>(∃a c,e=.returned (.slice a D.cs.length c)/\D.cs.length<=c/\qi w' 1 encI a (qD D (setOf (qC l))))/\Below w.heap.size w w':=by
 obtain⟨P,hP⟩:∃P,qD D (setOf (qC l))=P:=⟨_,rfl⟩;have hPl:=qH D (setOf (qC l));have hPg:=Jz D (qC l);have hfw:=fun(i:Nat) r c h1 h2=>Xt hz l (i:=i) (r:=r) (c:=c) h1 h2;have hok:=fun(i:Nat) r c h1 h2=>(Zf D (setOf (qC l)) (k:=i) (r:=r) (c:=c) h1 h2).1;rw[hP]at hPl hPg hfw hok⊢;have hgl:=(qY D hz).gs;have hcl:=(qY D hz).cs;have hdv:dv D=.agg #[.slice D.ta D.ts.length D.tc,.slice D.ga D.gs.length D.gc,.slice D.oa D.os.length D.oc,.slice D.ha D.hs.length D.hc,.slice D.ca D.cs.length D.cc]:=rfl;generalize Value.slice D.ta D.ts.length D.tc=x0 at hdv;generalize Value.slice D.ga D.gs.length D.gc=x1 at hdv;generalize Value.slice D.oa D.os.length D.oc=x2 at hdv;generalize Value.slice D.ha D.hs.length D.hc=x3 at hdv;have HD:=qd (qg h (qg hs (qg hz (qg hl (qg hlp (qg hdv hll))))));have HX:=qd (qg hPl (qg hPg (qg hfw hok)));obtain⟨i0,hi,hz0,hz1,hz2⟩:=info_parts xH;rw[hdv];obtain⟨W,hW⟩:∃W,w.alloc (Obj.cells #[x0,x1,x2,x3,.slice D.ca D.cs.length D.cc] 28)=W:=⟨_,rfl⟩;have h5:B5 W w.heap.size x0 x1 x2 x3 (.slice D.ca D.cs.length D.cc):=by subst hW;exact B5.new ..
 have hBw:Below w.heap.size w W:=by subst hW;go_grown
 have H5:=qd h5;have hl20:l.length<=20:=by omega
 clear h hs hz hl hlp hdv hll hPl hPg hfw hok hP h5;go_enter (sf 51 f51),ntmps51;go_upto_region 1 with fail;try rw[hW]
 clear hW;go_wp2;go_loopw [6,5] (fun i u wr=>∃(k:Nat) (v:Value),i=.int .i64 k/\v=u/\k<=D.cs.length/\Hid (Below W.heap.size W wr)/\Hid (wr.ownsRow W.heap.size 3 1 v (P.take k).length ((P.take k).map (.int .i64)))) (fun i _ _=>D.cs.length-(intOf i).toNat);case atStart=>exact⟨0,_,rfl,rfl,by omega,qd (Below.refl _ _),qd (World.ownsRow_nil _ _ _ _)⟩
 case round =>
  obtain⟨k,v,rfl,rfl,hk,HB,HO⟩:=hrel;obtain⟨V,hV⟩:∃V,V=wr:=⟨_,rfl⟩;subst hV;have hBV:=bcl hBw HB.out;obtain⟨k0,k1,k2,k3,k4⟩:=H5.out.keep HB.out;have htl:(P.take k).length=k:=by rw[List.length_take,HX.out.1];omega
  by_cases hlt:k<D.cs.length
  ·obtain⟨h,hs,hz,hl,hlp,hdv,hll⟩:=HD.out;have hd:=h.keep hBV;obtain⟨c,hx⟩:∃x,D.cs[k]? = some x:=⟨_,qM hlt⟩;obtain⟨r,hr⟩:∃r,P[k]? = some r:=⟨_,qM (by rw[HX.out.1];exact hlt)⟩;obtain⟨cb,co0,hca,hCP⟩:=hd.cs (by omega);have hkc:(k:Int)<=(D.cc:Int):=(by have:=hs.cs.2;omega);have hkl:(k:Int)<(D.cs.length:Int):=(by omega);have c0:=hCP k c hx 0 _ rfl;have c1:=hCP k c hx 1 _ rfl;have c2:=hCP k c hx 2 _ rfl;have c3:=hCP k c hx 3 _ rfl;have c4:=hCP k c hx 4 _ rfl;simp only[Nat.add_zero]at c0;obtain⟨va,vc,hv,hvc,hvr⟩:=zz HO.out;rw[htl]at hv hvc HO;subst hv;rw[hca]at k4 hdv;have hwo:=fun W (hB:Below V.heap.size V W)=>jw D c W (hd.keep hB) hs
   have hop:=fun x (W:World) (hB:Below V.heap.size V W)=>qfI D l (P.take k) la va lc vc c.co x W (hd.keep hB) hs ⟨by omega,hlc⟩ (hl.keep (bcl hBV hB)) hlp ⟨by rw[htl];omega,by rw[htl];exact hvc⟩ (hvr.keep hB) (fun i r c h1 h2=>by
    rw[List.getElem?_take]at h1;split at h1
    ·exact HX.out.2.2.2 i r c h1 h2
    ·cases h1) (qY D hz).hs
   rw[htl,hdv]at hop;rw[hdv]at hwo;obtain⟨hf1,hf2⟩:=HX.out.2.2.1 k r c hr hx;have hrl:=HX.out.2.2.2 k r c hr hx;have hrg:=HX.out.2.1 r (qI hr);have hway:=fun(n:Nat) (hn:n<(qK D c).ws.length)=>way_at hd hs (c:=c) hn
   have hgk:∀(n:Nat) x,(qK D c).ws[n]? = some x->∀g∈x.l,0<=g/\g<l.length:=fun n x hn g hg=>by
    obtain⟨o,ho,hxo⟩:=YY D c x (qI hn);have:=(qY D hz).ks o ho x hxo g hg;omega
   have hw20:(qK D c).ws.length<=20:=by
    rcases Nat.eq_zero_or_pos (qK D c).ws.length with h9|h9
    ·omega
    ·exact(hs.ws _ (Yu h9)).1
   have hPS:P.take (k+1)=P.take k++[r]:=by
    obtain⟨hk9,rfl⟩:=qB hr;rw[List.take_succ_eq_append_getElem hk9]
   unfold ZO cvC at hwo;have HPS:=qd hPS;have hLk:(P.take k).length<=20:=(by omega);have HTL:=qd htl;have HLL:=qd hll;clear hd h hs hz hl hlp hdv hca hCP hx hr hvr hPS htl hll
   generalize qK D c=O at *
   obtain⟨fr,tw,co,cl,se⟩:=c;obtain⟨ofr,oto,ows,oa,oc⟩:=O
   simp only at *
   have HWO:=qd hwo;have HOP:=qd hop;have HF:=qd (qg hf1 hf2);have HWY:=qd (qg hway hgk);have HKS:=qd (qg k0 (qg k1 (qg k2 (qg k3 k4))));clear hwo hop hf1 hf2 hway hgk;go_upto_region 6 with fail;obtain⟨U,hU⟩:∃U,V.alloc (Obj.cells #[.int .i64 fr,.int .i64 tw,.int .i64 co,.int .i64 cl,.int .i64 se] 99)=U:=⟨_,rfl⟩;have hBU:Below V.heap.size V U:=(by subst hU;go_grown);have e2:U.cell? ⟨V.heap.size,2,none⟩=some (.int .i64 co):=(by subst hU;go_cell);have e0:U.cell? ⟨V.heap.size,0,none⟩=some (.int .i64 fr):=(by subst hU;go_cell);have e1:U.cell? ⟨V.heap.size,1,none⟩=some (.int .i64 tw):=(by subst hU;go_cell);have e3:U.cell? ⟨V.heap.size,3,none⟩=some (.int .i64 cl):=(by subst hU;go_cell);have e4:U.cell? ⟨V.heap.size,4,none⟩=some (.int .i64 se):=(by subst hU;go_cell);rw[hU];clear hU c0 c1 c2 c3 c4;replace k0:=qb _ hBU k0;replace k1:=qb _ hBU k1;replace k2:=qb _ hBU k2;replace k3:=qb _ hBU k3;replace k4:=qb _ hBU k4;go_upto_region 7 with(go_at_call 84;(with_reducible refine(HWO.out _ hBU).mono ?_);rintro e X ⟨rfl,hB5⟩);have hBX:=bcl hBU hB5;replace e2:=qb _ hB5 e2;clear HWO k0 k1 k2 k3 k4 e0 e1 e3 e4 hB5;go_wp2;by_cases hr0:r<0
   ·skip;go_loopw [9] (fun i wr=>∃n:Nat,i=.int .i64 n/\n<=ows.length/\Hid (Below X.heap.size X wr)) (fun i _=>ows.length-(intOf i).toNat);case atStart=>exact⟨0,rfl,Nat.zero_le _,qd (Below.refl _ _)⟩
    case round =>
     obtain⟨n,rfl,hn,HI⟩:=hrel;have hBi:=bcl hBX HI.out;replace e2:=qb _ HI.out e2;have k0:=qb _ hBi HKS.out.1;have k1:=qb _ hBi HKS.out.2.1;have k2:=qb _ hBi HKS.out.2.2.1;have k3:=qb _ hBi HKS.out.2.2.2.1;have k4:=qb _ hBi HKS.out.2.2.2.2;by_cases hlt2:n<ows.length
     ·obtain⟨ob,oo,x,e1,hx0,f0,f1,f2,f3,f4,f5⟩:=HWY.out.1 n (by omega);have hb:=HF.out.1 n x hx0 (Or.inl hr0);have hop:=HOP.out x;have hox:=fun(W:World) (hB:Below V.heap.size V W)=>hop W hB ⟨f2,f3⟩ (f1.keep hB) (HWY.out.2 n x hx0) false (by show qaY D l P k co x=true;exact hb);have HOX:=qd hox;replace f0:=qb _ hBi f0;have hn1:(n:Int)<(ows.length:Int):=(by omega);have hn2:(n:Int)<=(oc:Int):=(by omega);clear hb hop hox f1 f2 f3 f4 f5 hx0;subst e1;go_upto_region 8 with fail;refine wp_region_held_drew (S:=(RHL [(⟨w.heap.size,0,none⟩,x0),(⟨w.heap.size,1,none⟩,x1),(⟨w.heap.size,2,none⟩,x2),(⟨w.heap.size,3,none⟩,x3),(⟨w.heap.size,4,none⟩,.slice (some ⟨cb,co0,none⟩) D.cs.length D.cc),(⟨V.heap.size,2,none⟩,.int .i64 co),(⟨ob,oo+n,none⟩,.slice x.a x.l.length x.c)] wr)) (by kernel_rfl) (by exact RHL.drew ⟨k0,k1,k2,k3,k4,e2,f0,Below.refl _ _⟩) (fun hHeld=>?_);refine tk 0 ?_;refine tk 1 ?_;refine tk 2 ?_;refine tk 3 ?_;refine tk 4 ?_;refine tk 5 ?_;refine tk 6 ?_;refine tk 7 ?_;refine tk 8 ?_;refine tk 9 ?_;refine tk 10 ?_;refine tk 11 ?_;refine tk 12 ?_;(refine tk 13 ?_;try simp only[zs,Act.put]);refine tkR 14 fun K hK=>?_;go_simp;go_wp2_with (go_at_call 102;(with_reducible refine(HOX.out _ (bcl hBi (RHL.bel hHeld))).mono ?_);rintro e X5 ⟨rfl,hB5⟩);refine hK.out _ _ (by exact RHL.call hHeld hB5) (fun hHeldN=>?_);clear hK K hHeld;have hHeld:=hHeldN;clear hHeldN;(try simp only[zs,Act.put]);refine tk 15 ?_;(refine tk 16 ?_;try simp only[zs,Act.put]);refine wpAnyH_done (by kernel_rfl) ?_ _;try simp only[zs,Act.put]
      have hBj:=bcl HI.out (RHL.bel hHeld);clear hHeld k0 k1 k2 k3 k4 f0 e2;go_wp2;go_roundw;(case rel=>exact⟨n+1,rfl,by omega,qd hBj⟩);case measure=>simp[intOf];omega
     ·obtain rfl:n=ows.length:=(by omega);have hr1:r=-1:=(by omega);subst hr1;go_upto_region 8 with fail;refine wp_region_held_drew (S:=(RHL [(⟨V.heap.size,2,none⟩,.int .i64 co)] wr)) (by kernel_rfl) (by exact RHL.drew ⟨e2,Below.refl _ _⟩) (fun hHeld=>?_);refine tk 0 ?_;refine tk 1 ?_;refine tk 2 ?_;refine tk 3 ?_;refine tk 4 ?_;refine tkS 5 ?_;refine tkS 6 ?_;refine tkS 7 ?_;refine tkS 8 ?_;refine tkS 9 ?_;refine tkS 10 ?_;refine tkS 11 ?_;refine tkS 12 ?_;refine tkS 13 ?_;refine tkS 14 ?_;refine tkS 15 ?_;(refine tk 16 ?_;try simp only[zs,Act.put]);refine wpAnyH_done (by kernel_rfl) ?_ _;(try simp only[zs,Act.put]);have hBj:=bcl HI.out (RHL.bel hHeld);clear hHeld k0 k1 k2 k3 k4 e2;have hne:((ows.length:Int)==(ows.length:Int))=true:=(by simp);have HOj:=qd (qV HO.out (bcl hBX hBj));have HBj:=qd (bcl HB.out (Below.call hBX hBj ql));clear HKS HOP HF HWY HI hBi hBj hn HO HB HD HX;go_wp2_with (at_builtin;refine wpList_append_own_at _ rfl (.tmp 48) (.tmp 50) 31 rfl W.heap.size 3 i0 (.int .i64 0) 1 8 ((qF _).trans Tryz.underlying31) hi hz0 hz1 hz2 rfl (by decide) _ _ _ rfl (HOj.out.alloc _) ⟨wr.heap.size,0,none⟩ 1 1 [.int .i64 (-1)] rfl rfl (cell_one_new _ _ _) (Qh (-1)) (by unfold maxLen;omega) (by omega) (by have h9:W.heap.size<=wr.heap.size:=HBj.out.size;simp;omega) ?_;intro v1 w3 n1 y1 nil1 at1);have y2:(wr.drew.alloc (.cells #[.int .i64 (-1)] 3)).grownBy w3 (Value.slice va k vc).ownBlock:=y1;have hB3:=HBj.out.trans (((Mod.below ((Below.refl _ wr.drew).alloc ql _)).trans (Mod.grown (S:=fun b=>(Value.slice va k vc).ownBlock=some b) y2 (fun b e=>e))).keep HBj.out.size (fun b hb=>(HOj.out.lt b hb).1))
      go_roundw
      case rel =>
       refine⟨k+1,v1,rfl,rfl,by omega,qd hB3,qd ?_⟩;rw[HPS.out];simp only[List.length_append,List.length_cons,List.length_nil,Nat.zero_add,List.map_append,List.map_cons,List.map_nil,HTL.out];exact n1
      case measure=>simp[intOf];omega
   ·obtain⟨m,rfl⟩:∃m:Nat,r=m:=⟨r.toNat,by omega⟩;have hml:m<ows.length:=(by omega);go_loopw [9] (fun i wr=>∃n:Nat,i=.int .i64 n/\n<=m/\Hid (Below X.heap.size X wr)) (fun i _=>m-(intOf i).toNat);case atStart=>exact⟨0,rfl,Nat.zero_le _,qd (Below.refl _ _)⟩
    case round =>
     obtain⟨n,rfl,hn,HI⟩:=hrel;have hBi:=bcl hBX HI.out;replace e2:=qb _ HI.out e2;have k0:=qb _ hBi HKS.out.1;have k1:=qb _ hBi HKS.out.2.1;have k2:=qb _ hBi HKS.out.2.2.1;have k3:=qb _ hBi HKS.out.2.2.2.1;have k4:=qb _ hBi HKS.out.2.2.2.2;by_cases hlt2:n<m
     ·obtain⟨ob,oo,x,e1,hx0,f0,f1,f2,f3,f4,f5⟩:=HWY.out.1 n (by omega);have hb:=HF.out.1 n x hx0 (Or.inr (by omega));have hop:=HOP.out x;have hox:=fun(W:World) (hB:Below V.heap.size V W)=>hop W hB ⟨f2,f3⟩ (f1.keep hB) (HWY.out.2 n x hx0) false (by show qaY D l P k co x=true;exact hb);have HOX:=qd hox;replace f0:=qb _ hBi f0;have hn1:(n:Int)<(ows.length:Int):=(by omega);have hn2:(n:Int)<=(oc:Int):=(by omega);clear hb hop hox f1 f2 f3 f4 f5 hx0;subst e1;go_upto_region 8 with fail;refine wp_region_held_drew (S:=(RHL [(⟨w.heap.size,0,none⟩,x0),(⟨w.heap.size,1,none⟩,x1),(⟨w.heap.size,2,none⟩,x2),(⟨w.heap.size,3,none⟩,x3),(⟨w.heap.size,4,none⟩,.slice (some ⟨cb,co0,none⟩) D.cs.length D.cc),(⟨V.heap.size,2,none⟩,.int .i64 co),(⟨ob,oo+n,none⟩,.slice x.a x.l.length x.c)] wr)) (by kernel_rfl) (by exact RHL.drew ⟨k0,k1,k2,k3,k4,e2,f0,Below.refl _ _⟩) (fun hHeld=>?_);refine tk 0 ?_;refine tk 1 ?_;refine tk 2 ?_;refine tk 3 ?_;refine tk 4 ?_;refine tk 5 ?_;refine tk 6 ?_;refine tk 7 ?_;refine tk 8 ?_;refine tk 9 ?_;refine tk 10 ?_;refine tk 11 ?_;refine tk 12 ?_;(refine tk 13 ?_;try simp only[zs,Act.put]);refine tkR 14 fun K hK=>?_;go_simp;go_wp2_with (go_at_call 102;(with_reducible refine(HOX.out _ (bcl hBi (RHL.bel hHeld))).mono ?_);rintro e X5 ⟨rfl,hB5⟩);refine hK.out _ _ (by exact RHL.call hHeld hB5) (fun hHeldN=>?_);clear hK K hHeld;have hHeld:=hHeldN;clear hHeldN;(try simp only[zs,Act.put]);refine tk 15 ?_;(refine tk 16 ?_;try simp only[zs,Act.put]);refine wpAnyH_done (by kernel_rfl) ?_ _;try simp only[zs,Act.put]
      have hBj:=bcl HI.out (RHL.bel hHeld);clear hHeld k0 k1 k2 k3 k4 f0 e2;go_wp2;go_roundw;(case rel=>exact⟨n+1,rfl,by omega,qd hBj⟩);case measure=>simp[intOf];omega
     ·obtain rfl:n=m:=(by omega);obtain⟨ob,oo,x,e1,hx0,f0,f1,f2,f3,f4,f5⟩:=HWY.out.1 n (by omega);have hb:=HF.out.2 n x hx0 rfl;have hop:=HOP.out x;have hox:=fun(W:World) (hB:Below V.heap.size V W)=>hop W hB ⟨f2,f3⟩ (f1.keep hB) (HWY.out.2 n x hx0) true (by show qaY D l P k co x=false;exact hb);have HOX:=qd hox;replace f0:=qb _ hBi f0;have hn1:(n:Int)<(ows.length:Int):=(by omega);have hn2:(n:Int)<=(oc:Int):=(by omega);clear hb hop hox f1 f2 f3 f4 f5 hx0;subst e1;go_upto_region 8 with fail;refine wp_region_held_drew (S:=(RHL [(⟨w.heap.size,0,none⟩,x0),(⟨w.heap.size,1,none⟩,x1),(⟨w.heap.size,2,none⟩,x2),(⟨w.heap.size,3,none⟩,x3),(⟨w.heap.size,4,none⟩,.slice (some ⟨cb,co0,none⟩) D.cs.length D.cc),(⟨V.heap.size,2,none⟩,.int .i64 co),(⟨ob,oo+n,none⟩,.slice x.a x.l.length x.c)] wr)) (by kernel_rfl) (by exact RHL.drew ⟨k0,k1,k2,k3,k4,e2,f0,Below.refl _ _⟩) (fun hHeld=>?_);refine tk 0 ?_;refine tk 1 ?_;refine tk 2 ?_;refine tk 3 ?_;refine tk 4 ?_;refine tk 5 ?_;refine tk 6 ?_;refine tk 7 ?_;refine tk 8 ?_;refine tk 9 ?_;refine tk 10 ?_;refine tk 11 ?_;refine tk 12 ?_;(refine tk 13 ?_;try simp only[zs,Act.put]);refine tkR 14 fun K hK=>?_;go_simp;go_wp2_with (go_at_call 102;(with_reducible refine(HOX.out _ (bcl hBi (RHL.bel hHeld))).mono ?_);rintro e X5 ⟨rfl,hB5⟩);refine hK.out _ _ (by exact RHL.call hHeld hB5) (fun hHeldN=>?_);clear hK K hHeld;have hHeld:=hHeldN;clear hHeldN;(try simp only[zs,Act.put]);refine tk 15 ?_;(refine tk 16 ?_;try simp only[zs,Act.put]);refine wpAnyH_done (by kernel_rfl) ?_ _;try simp only[zs,Act.put]
      have hBj:=bcl HI.out (RHL.bel hHeld);clear hHeld k0 k1 k2 k3 k4 f0 e2;have hne:((n:Int)==(ows.length:Int))=false:=(by simp;omega);have HOj:=qd (qV HO.out (bcl hBX hBj));have HBj:=qd (bcl HB.out (Below.call hBX hBj ql));clear HKS HOP HF HWY HI hBi hBj hn HO HB HD HX;go_wp2_with (at_builtin;refine wpList_append_own_at _ rfl (.tmp 48) (.tmp 50) 31 rfl W.heap.size 3 i0 (.int .i64 0) 1 8 ((qF _).trans Tryz.underlying31) hi hz0 hz1 hz2 rfl (by decide) _ _ _ rfl (HOj.out.alloc _) ⟨X5.heap.size,0,none⟩ 1 1 [.int .i64 n] rfl rfl (cell_one_new _ _ _) (Qh n) (by unfold maxLen;omega) (by omega) (by have h9:W.heap.size<=X5.heap.size:=HBj.out.size;simp;omega) ?_;intro v1 w3 n1 y1 nil1 at1);have y2:(X5.alloc (.cells #[.int .i64 n] 3)).grownBy w3 (Value.slice va k vc).ownBlock:=y1;have hB3:=HBj.out.trans (((Mod.below ((Below.refl _ X5).alloc ql _)).trans (Mod.grown (S:=fun b=>(Value.slice va k vc).ownBlock=some b) y2 (fun b e=>e))).keep HBj.out.size (fun b hb=>(HOj.out.lt b hb).1));go_roundw
      case rel =>
       refine⟨k+1,v1,rfl,rfl,by omega,qd hB3,qd ?_⟩;rw[HPS.out];simp only[List.length_append,List.length_cons,List.length_nil,Nat.zero_add,List.map_append,List.map_cons,List.map_nil,HTL.out];exact n1
      case measure=>simp[intOf];omega
  ·obtain rfl:k=D.cs.length:=(by omega);obtain⟨va,vc,rfl,hvc,hvr⟩:=zz HO.out;rw[htl]at hvc⊢;have hall:P.take D.cs.length=P:=List.take_of_length_le (by rw[HX.out.1];exact ql);rw[hall]at hvr;have HV:=qd (qg hvc (qg hvr hBV));clear hvr hall;go_wp2;go_ret;exact⟨⟨va,vc,rfl,HV.out.1,HV.out.2.1⟩,HV.out.2.2⟩
theorem qdv(D:DayM)(R:List Int)(ra:Option Addr)(rc:Nat)(w:World)(h:DayAt w D)(hs:DaySm D)(hR:R.length=D.cs.length)(hrc:D.cs.length<=rc)(hr:qi w 1 encI ra R) :
 Calls qp 68 #[dv D,.slice ra D.cs.length rc] w fun e w'=>e=.returned (.bool (xm R D.cs))/\Below w.heap.size w w':=by
 obtain⟨B,hB⟩:∃B,xm R D.cs=B:=⟨_,rfl⟩;rw[hB];have HCS:=qd h.cs;have hcs:=hs.cs;have HR:=qd hr;have HRL:=qd hR;have HB0:Hid (xm (R.drop 0) (D.cs.drop 0)=B):=qd hB;clear h hs hr hR hB;unfold dv;obtain⟨ts,ta,tc,gs,ga,gc,os,oa,oc,hs,ha,hc,cs,ca,cc⟩:=D
 simp only at *
 generalize Value.slice ta ts.length tc=x0 at *
 generalize Value.slice ga gs.length gc=x1 at *
 generalize Value.slice oa os.length oc=x2 at *
 generalize Value.slice ha hs.length hc=x3 at *
 obtain⟨W,hW⟩:∃W,w.alloc (Obj.cells #[x0,x1,x2,x3,.slice ca cs.length cc] 28)=W:=⟨_,rfl⟩;have k4:W.cell? ⟨w.heap.size,4,none⟩=some (.slice ca cs.length cc):=by subst hW;go_cell
 have hBW:Below w.heap.size w W:=by subst hW;go_grown
 go_enter (sf 68 f68),ntmps68;go_upto_region 1 with fail;try rw[hW]
 clear hW;go_wp2;go_loopw [5] (fun i wr=>∃k:Nat,i=.int .i64 k/\k<=cs.length/\wr=W/\Hid (xm (R.drop k) (cs.drop k)=B)) (fun i _=>cs.length-(intOf i).toNat);case atStart=>exact⟨0,rfl,Nat.zero_le _,rfl,HB0⟩
 case round =>
  obtain⟨k,rfl,hk,rfl,HN⟩:=hrel;by_cases hlt:k<cs.length
  ·obtain⟨c,hx⟩:∃x,cs[k]? = some x:=⟨_,qM hlt⟩;obtain⟨r,hr⟩:∃r,R[k]? = some r:=⟨_,qM (by rw[HRL.out];exact hlt)⟩;obtain⟨b,o,rfl,hP⟩:=HCS.out (by show 1<=cs.length;omega);obtain⟨gb,go,rfl,hQ⟩:=HR.out (by rw[HRL.out];omega);have hkc:(k:Int)<=(cc:Int):=(by omega);have hkr:(k:Int)<=(rc:Int):=(by omega);have hki:(k:Int)<(cs.length:Int):=(by omega);have c4:=qb _ hBW (hP k c hx 4 _ rfl);have d0:=qb _ hBW (hQ k r hr 0 _ rfl);simp only[Nat.mul_one,Nat.add_zero]at d0;have hN:=HN.out;rw[Xi hr hx]at hN;clear hP hQ hx hr;obtain⟨fr,tw,co,cl,se⟩:=c
   simp only at *
   have HN2:=qd hN;clear hN;by_cases e1:se=-2
   ·have g1:(se != -2)=false:=(by simp[e1]);go_wp2;go_roundw;(case rel=>exact⟨k+1,rfl,by omega,(by first|rfl|trivial),qd (by have e:=HN2.out;simpa[e1]using e)⟩);case measure=>simp[intOf];omega
   ·have g1:(se != -2)=true:=(by simpa using e1);by_cases e2:se=r
    ·have g2:(se != r)=false:=(by simp[e2]);go_wp2;go_roundw;(case rel=>exact⟨k+1,rfl,by omega,(by first|rfl|trivial),qd (by have e:=HN2.out;simpa[e2]using e)⟩);case measure=>simp[intOf];omega
    ·have g2:(se != r)=true:=(by simpa using e2);go_wp2;go_ret;refine⟨?_,hBW⟩;have e:=HN2.out
     cases B with
     | false=>rfl
     | true=>simp[show(se == -2)=false by simpa using e1,show(se==r)=false by simpa using e2]at e
  ·obtain rfl:k=cs.length:=(by omega);have hN:=HN.out;rw[List.drop_eq_nil_of_le (Nat.le_refl cs.length)]at hN
   have hN2:B=true:=by
    rw[<-hN];cases R.drop cs.length<;>rfl
   have HN2:=qd hN2;clear hN hN2;go_wp2;go_ret;exact⟨by rw[HN2.out];rfl,hBW⟩
end Go.Proofs.Tryz
namespace Go.RouteHead
open Go
section
variable {P:Program} {ops:Array Oper} {md:Region.Mode} {Q:Exit->Act->World->Prop} {S:World->Prop} {T:Array Bool->Act->World->Prop} {n:Nat}
def jX(P:Program)(md:Region.Mode)(ops:Array Oper)(Q:Exit->Act->World->Prop)(S:World->Prop)(n:Nat)(T:Array Bool->Act->World->Prop):Nat->Array Bool->Act->World->Prop
 | 0,listed,a,w=>T listed a w
 | f+1,listed,a,w=>Region.ready md ops listed≠[]/\∀i∈Region.ready md ops listed,i<n/\wpOp P ops Q i (fun a' w'=>S w'/\jX P md ops Q S n T f (listed.setIfInBounds i true) a' w') a w
theorem qcC{g:Nat}(hT:∀listed a w,T listed a w->wpAny P md ops Q g listed a w):∀(f:Nat) (listed:Array Bool) (a:Act) (w:World),jX P md ops Q S n T f listed a w->wpAny P md ops Q (f+g) listed a w
 | 0,listed,a,w,h=>by rw[Nat.zero_add];exact hT _ _ _ h
 | f+1,listed,a,w,h=>by
   rw[show f+1+g=(f+g)+1 by omega];exact⟨fun h0=>absurd h0 h.1,fun i hi=>wpOp_mono (fun a' w' h'=>qcC hT f _ a' w' h'.2) (h.2 i hi).2⟩
structure HeadC (md:Region.Mode) (ops:Array Oper) (n:Nat) (T:Array Bool->Act->World->Prop):Prop where
 sel:Region.noSelect ops=true
 sink:Region.sinkB md ops n=true
 chain:Region.chainB md ops n=true
 lt:n<ops.size
 done:∀listed a w,T listed a w->∀j∈Region.ready md ops listed,n<=j
theorem qaO{i:Nat}{oi:Oper}{v:Value}(C:HeadC md ops n T)(hi:ops[i]? = some oi)(hin:i<n)(hQ:∀c a w,Q (.panic c) (a.put oi.dst v) w->Q (.panic c) a w) :
 ∀(f:Nat) (listed:Array Bool) (a:Act) (w:World),HeadInv md ops n listed ->
  (∀j oj,ops[j]? = some oj->j≠i->listed.getD j true=false->(∀e∈oj.after,Region.binds md e=true->e.on≠i)->oi.apart ops oj=true) ->
  i∈Region.ready md ops listed->YieldsIf P ops S oi v a->S w ->
  jX P md ops Q S n T f (listed.setIfInBounds i true) (a.put oi.dst v) w->jX P md ops Q S n T (f+1) listed a w:=by
 have hsel:=Region.noSelect_spec C.sel;intro f
 induction f with
 | zero =>
   intro listed a w inv _ hr hy hS H;have hun:=(mem_ready.1 hr).1;refine⟨fun h=>(by rw[h]at hr;cases hr),fun j hj=>?_⟩;have hjn:j<n:=(Nat.lt_or_ge j n).resolve_right fun h=>tail_waits C.sink C.chain C.lt inv _ i rfl hin hun j h hj;refine⟨hjn,?_⟩;by_cases hji:j=i
   ·subst hji;exact hy.wpOp hi hS ⟨hS,H⟩
   ·have:=C.done _ _ _ H j (ready_mono hj hji);omega
 | succ f ih =>
   intro listed a w inv hfree hr hy hS H;have hun:=(mem_ready.1 hr).1;refine⟨fun h=>(by rw[h]at hr;cases hr),fun j hj=>?_⟩;have hjn:j<n:=(Nat.lt_or_ge j n).resolve_right fun h=>tail_waits C.sink C.chain C.lt inv _ i rfl hin hun j h hj;refine⟨hjn,?_⟩;by_cases hji:j=i
   ·subst hji;exact hy.wpOp hi hS ⟨hS,H⟩
   ·have h1:=(H.2 j (ready_mono hj hji)).2;obtain⟨hjun,oj,hoj,hall⟩:=mem_ready.1 hj
    have hnot:∀e∈oj.after,Region.binds md e=true->e.on≠i:=fun e he hb heq=>by
     have h3:=hall e he hb;rw[heq,getD_both hun]at h3;cases h3
    have h2:=wpOp_putIf hoj (hfree j oj hoj hji hjun hnot) (fun cs b=>hsel i oi cs b hi) (fun cs b=>hsel j oj cs b hoj) hQ hy h1;refine wpOp_mono (fun a' w' h3=>⟨h3.2.1,ih (listed.setIfInBounds j true) a' w' (inv.set hj hjn) (fun k ok hk hki hu hno=>?_) (ready_mono hr (Ne.symm hji)) h3.1 h3.2.1 ?_⟩) h2
    ·refine hfree k ok hk hki ?_ hno;by_cases hjk:j=k
     ·subst hjk;exact hjun
     ·rw[getD_set_ne true hjk]at hu;exact hu
    ·rw[Array.setIfInBounds_comm _ _ hji];exact h3.2.2
theorem inv_set{i:Nat}{listed:Array Bool}(inv:HeadInv md ops n listed)(hin:(decide (i<n))=true)(hr:(Region.ready md ops listed).contains i=true):HeadInv md ops n (listed.setIfInBounds i true):=inv.set (by simpa using hr) (of_decide_eq_true hin)
theorem qbO{i:Nat}{oi:Oper}{v:Value}{f:Nat}{listed:Array Bool}{a:Act}{w:World}(C:HeadC md ops n T)(inv:HeadInv md ops n listed)(hi:ops[i]? = some oi)(hin:(decide (i<n))=true)(hf:Region.free md ops listed i=true)(hr:(Region.ready md ops listed).contains i=true)
 (hQ:∀c a w,Q (.panic c) (a.put oi.dst v) w->Q (.panic c) a w) (hy:YieldsIf P ops S oi v a) (hS:S w) (h:jX P md ops Q S n T f (listed.setIfInBounds i true) (a.put oi.dst v) w):jX P md ops Q S n T (f+1) listed a w :=
 have hr':i∈Region.ready md ops listed:=by simpa using hr
 qaO C hi (of_decide_eq_true hin) hQ f listed a w inv (Region.free_spec hi hf) hr' hy hS h
theorem xk(i:Nat){oi:Oper}{v:Value}{f:Nat}{listed:Array Bool}{a:Act}{w:World}(C:HeadC md ops n T)(inv:HeadInv md ops n listed)(h:HeadInv md ops n (listed.setIfInBounds i true)->jX P md ops Q S n T f (listed.setIfInBounds i true) (a.put oi.dst v) w)
 (hi:ops[i]? = some oi:=by rfl) (hin:(decide (i<n))=true:=by kernel_rfl) (hf:Region.free md ops listed i=true:=by kernel_rfl) (hr:(Region.ready md ops listed).contains i=true:=by kernel_rfl)
 (hy:YieldsIf P ops S oi v a:=by exact Or.inl ⟨by kernel_rfl,by intro w hSw;(try dsimp only at hSw);go_simp;first|done|exact rfl⟩) (hS:S w:=by assumption) (hQ:∀c a w,Q (.panic c) (a.put oi.dst v) w->Q (.panic c) a w:=by exact fun _ _ _ h=>h):jX P md ops Q S n T (f+1) listed a w :=
 qbO C inv hi hin hf hr hQ hy hS (h (inv_set inv hin hr))
theorem wpHead_one{i:Nat}{o:Oper}{f:Nat}{listed:Array Bool}{a:Act}{w:World}(inv:HeadInv md ops n listed)(hr:Region.ready md ops listed=[i])(hin:(decide (i<n))=true)(ho:ops[i]? = some o)
 (h:∀K':Act->World->Prop,Shut (∀a w,S w->(S w->HeadInv md ops n (listed.setIfInBounds i true)->jX P md ops Q S n T f (listed.setIfInBounds i true) a w)->K' a w)->if Region.wanted o (yielded ops a.tmps)=true then Oper.wp P o a w K' Q else K' (a.put o.dst undef) w) :
 jX P md ops Q S n T (f+1) listed a w:=by
 have hr':i∈Region.ready md ops listed:=by rw[hr];exact List.mem_singleton.2 rfl
 refine⟨by rw[hr];simp,fun j hj=>?_⟩;rw[hr]at hj;obtain rfl:=List.mem_singleton.1 hj;exact⟨of_decide_eq_true hin,wpOp_step ho (fun K' hK=>h K' (fun a w hS hW=>hK a w ⟨hS,hW hS (inv.set hr' (of_decide_eq_true hin))⟩))⟩
end
section
variable {P:Program} {Q:Exit->Act->World->Prop} {S:World->Prop}
def tailT(P:Program)(Q:Exit->Act->World->Prop)(l:List Oper)(n:Nat)(t:List Oper)(listed:Array Bool)(a:Act)(w:World):Prop:=Region.seqB .any l.toArray (l.toArray.size-n) n listed=true/\wpList P l.toArray Q t a w
theorem wp_region_head{id:Nat}{a:Act}{w:World}{l:List Oper}(n:Nat)(t:List Oper)(hm:P.follows .mixedOrders=true)(hsel:Region.noSelect l.toArray=true)(hsk:Region.sinkB .any l.toArray n=true)(hch:Region.chainB .any l.toArray n=true)(hn:(decide (n<l.toArray.size))=true)(ht:l.drop n=t)
 (hS:S w.drew) (h:S w.drew->HeadC .any l.toArray n (tailT P Q l n t)->HeadInv .any l.toArray n (Array.replicate l.toArray.size false)->jX P .any l.toArray Q S n (tailT P Q l n t) n (Array.replicate l.toArray.size false) a w.drew):(Code.region id l.toArray true).wp P Q a w:=by
 have hn:=of_decide_eq_true hn
 have inv0:HeadInv .any l.toArray n (Array.replicate l.toArray.size false) :=
  ⟨by simp,fun j oj _ hl=>(by rw[getD_replicate_false]at hl;cases hl),fun t _ ht=>getD_in (by simpa using ht) (getD_replicate_false _ _)⟩
 have H:=h hS ⟨hsel,hsk,hch,hn,fun listed a w hT=>seqB_ready hT.1⟩ inv0;have hdl:(l.drop n).length=l.toArray.size-n:=by simp
 refine wp_region_any hm ?_
 have:=qcC (Q:=Q) (ops:=l.toArray) (g:=l.toArray.size-n) (fun listed a' w' hT=>by
  have:=wpAny_of_seq (md:=.any) (ops:=l.toArray) (P:=P) (Q':=Q) (l.drop n) n listed a' w' (fun j=>by simp[List.getElem?_drop]) (by rw[hdl];exact hT.1) (by rw[ht];exact hT.2)
  rwa[hdl]at this) _ _ _ _ H
 rw[show n+(l.toArray.size-n)=l.toArray.size by omega]at this;exact this
end
end Go.RouteHead
namespace Go.Proofs.Tryz
open Go Go.Load Go.LoadR Go.RowKit
theorem yo.mod2{α:Type}{S:Nat->Prop}{B:Nat}{w w1:World}{k:Nat}{enc:α->List Value}{a:Option Addr}{l:List α}(h:yo B w k enc a l)(hm:Mod S w w1)(hS:1<=l.length->∀p,a=some p->¬S p.block):yo B w1 k enc a l :=
 ⟨h.1,fun hl=>by
   obtain⟨g,e,h⟩:=h.2 hl;have hn:=hS hl _ e
   exact⟨g,e,fun i x hx j v hv=>⟨hm.cell (h i x hx j v hv).1 hn,(hm.frozen (h i x hx j v hv).1 hn).trans (h i x hx j v hv).2⟩⟩⟩
structure WayOK (B:Nat) (w:World) (x' x:WayM):Prop where
 l:x'.l=x.l
 c:x'.l.length<=x'.c
 own:yo B w 1 encI x'.a x'.l
theorem WayOK.mod{S:Nat->Prop}{B:Nat}{w w1:World}{x' x:WayM}(h:WayOK B w x' x)(hm:Mod S w w1)(hS:∀j,S j->j<B):WayOK B w1 x' x :=
 ⟨h.l,h.c,h.own.mod hm (fun p hp e=>by have:=h.own.1 p hp;have:=hS _ e;omega)⟩
structure OrdOK (B:Nat) (w:World) (o' o:OrdM):Prop where
 fr:o'.fr=o.fr
 tto:o'.toT=o.toT
 len:o'.ws.length=o.ws.length
 c:o'.ws.length<=o'.c
 own:yo B w 1 xu o'.a o'.ws
 ways:∀(j:Nat) (x' x:WayM),o'.ws[j]? = some x'->o.ws[j]? = some x->WayOK B w x' x
theorem OrdOK.mod{S:Nat->Prop}{B:Nat}{w w1:World}{o' o:OrdM}(h:OrdOK B w o' o)(hm:Mod S w w1)(hS:∀j,S j->j<B):OrdOK B w1 o' o :=
 ⟨h.fr,h.tto,h.len,h.c,h.own.mod hm (fun p hp e=>by have:=h.own.1 p hp;have:=hS _ e;omega),fun j x' x h1 h2=>(h.ways j x' x h1 h2).mod hm hS⟩
def qcJ(B k:Nat)(os:List OrdM)(w:World)(os':List OrdM):Prop :=
 os'.length=os.length/\∀(i:Nat) (o' o:OrdM),os'[i]? = some o'->os[i]? = some o->if i<k then OrdOK B w o' o else o'=o
theorem qcJ.zero(B:Nat)(os:List OrdM)(w:World):qcJ B 0 os w os:=⟨rfl,fun i o' o h1 h2=>by rw[if_neg (by omega)];rw[h1]at h2;exact qz h2⟩
theorem qcJ.mod{S:Nat->Prop}{B k:Nat}{os os':List OrdM}{w w1:World}(h:qcJ B k os w os')(hm:Mod S w w1)(hS:∀j,S j->j<B):qcJ B k os w1 os' :=
 ⟨h.1,fun i o' o h1 h2=>by
   have:=h.2 i o' o h1 h2;by_cases hi:i<k
   ·rw[if_pos hi]at this⊢;exact this.mod hm hS
   ·rw[if_neg hi]at this⊢;exact this⟩
theorem qcJ.step{B k:Nat}{os os':List OrdM}{w:World}{o o':OrdM}(h:qcJ B k os w os')(ho:os[k]? = some o)(hk:OrdOK B w o' o):qcJ B (k+1) os w (os'.set k o') :=
 ⟨by rw[List.length_set];exact h.1,fun i p' p h1 h2=>by
   by_cases e:i=k
   ·subst e;rw[ho]at h2;obtain rfl:=qz h2;rw[if_pos (by omega)];have hl:i<os'.length:=(by rw[h.1];exact(qB ho).1);rw[List.getElem?_set_self hl]at h1;obtain rfl:=qz h1;exact hk
   ·rw[List.getElem?_set_ne (Ne.symm e)]at h1;have:=h.2 i p' p h1 h2;by_cases hi:i<k
    ·rw[if_pos hi]at this;rw[if_pos (by omega)];exact this
    ·rw[if_neg hi]at this;rw[if_neg (by omega)];exact this⟩
theorem yo.lt{α:Type}{B:Nat}{w:World}{k:Nat}{enc:α->List Value}{a:Option Addr}{l:List α}(h:yo B w k enc a l)(he:∀x,∃v,(enc x)[0]? = some v)(hl:1<=l.length)(p:Addr)(hp:a=some p):p.block<w.heap.size:=by
 obtain⟨g,e,hc⟩:=h.2 hl;rw[hp]at e;obtain rfl:=qz e;obtain⟨v,hv⟩:=he (l[0]'(by omega));have h9:=lt_of_cell (hc 0 (l[0]'(by omega)) (qM (by omega)) 0 v hv).1;exact h9
structure CopS (D:DayM) (N3 N4:Nat) (a1:Option Addr) (c1:Nat) (a2:Option Addr) (c2:Nat) (a3:Option Addr) (c3:Nat) (a4:Option Addr) (c4:Nat) (a5:Option Addr) (c5:Nat) (w wr:World):Prop where
 bel:Below w.heap.size w wr
 y0:wr.cell? ⟨w.heap.size,0,none⟩=some (.slice a1 D.ts.length c1)
 y1:wr.cell? ⟨w.heap.size,1,none⟩=some (.slice a2 D.gs.length c2)
 y2:wr.cell? ⟨w.heap.size,2,none⟩=some (.slice a5 D.os.length c5)
 y3:wr.cell? ⟨w.heap.size,3,none⟩=some (.slice a3 D.hs.length c3)
 y4:wr.cell? ⟨w.heap.size,4,none⟩=some (.slice a4 D.cs.length c4)
 r:∀i,i<5->∃v,wr.cell? ⟨w.heap.size+1,i,none⟩=some v/\wr.frozen? ⟨w.heap.size+1,i,none⟩=false
 lt:w.heap.size+1<N3
 le:N3<=N4
 ts:yo (w.heap.size+2) wr 1 encS a1 D.ts
 b1:1<=D.ts.length->∀p,a1=some p->p.block<N3
 gs:yo (w.heap.size+2) wr 4 JV a2 D.gs
 b2:1<=D.gs.length->∀p,a2=some p->p.block<N3
 hs:yo (w.heap.size+2) wr 4 qcV a3 D.hs
 b3:1<=D.hs.length->∀p,a3=some p->p.block<N3
 cs:yo (w.heap.size+2) wr 5 YQ a4 D.cs
 b4:1<=D.cs.length->∀p,a4=some p->N3<=p.block/\p.block<N4
theorem CopS.mod{D:DayM}{N3 N4:Nat}{a1:Option Addr}{c1:Nat}{a2:Option Addr}{c2:Nat}{a3:Option Addr}{c3:Nat}{a4:Option Addr}{c4:Nat}{a5:Option Addr}{c5:Nat}{w wr wx:World}{S:Nat->Prop}(h:CopS D N3 N4 a1 c1 a2 c2 a3 c3 a4 c4 a5 c5 w wr)(hm:Mod S wr wx)(hS:∀j,S j->N4<=j):CopS D N3 N4 a1 c1 a2 c2 a3 c3 a4 c4 a5 c5 w wx:=by
 have hlt:=h.lt;have hle:=h.le;have hn:¬S w.heap.size:=fun e=>by have:=hS _ e;omega
 have hn1:¬S (w.heap.size+1):=fun e=>by have:=hS _ e;omega
 refine⟨h.bel.trans (hm.keep h.bel.size (fun j hj=>by have:=hS j hj;omega)),hm.cell h.y0 hn,hm.cell h.y1 hn,hm.cell h.y2 hn,hm.cell h.y3 hn,hm.cell h.y4 hn,?_,hlt,hle,?_,h.b1,?_,h.b2,?_,h.b3,?_,h.b4⟩
 ·intro i hi;obtain⟨v,h1,h2⟩:=h.r i hi;exact⟨v,hm.cell h1 hn1,(hm.frozen h1 hn1).trans h2⟩
 ·exact h.ts.mod2 hm (fun hl p hp e=>by have:=h.b1 hl p hp;have:=hS _ e;omega)
 ·exact h.gs.mod2 hm (fun hl p hp e=>by have:=h.b2 hl p hp;have:=hS _ e;omega)
 ·exact h.hs.mod2 hm (fun hl p hp e=>by have:=h.b3 hl p hp;have:=hS _ e;omega)
 ·exact h.cs.mod2 hm (fun hl p hp e=>by have:=h.b4 hl p hp;have:=hS _ e;omega)
def InS(B k:Nat)(ws:List WayM)(w:World)(ws':List WayM):Prop :=
 ws'.length=ws.length/\∀(i:Nat) (x' x:WayM),ws'[i]? = some x'->ws[i]? = some x->if i<k then WayOK B w x' x else x'=x
theorem InS.zero(B:Nat)(ws:List WayM)(w:World):InS B 0 ws w ws:=⟨rfl,fun i o' o h1 h2=>by rw[if_neg (by omega)];rw[h1]at h2;exact qz h2⟩
theorem InS.mod{S:Nat->Prop}{B k:Nat}{ws ws':List WayM}{w w1:World}(h:InS B k ws w ws')(hm:Mod S w w1)(hS:∀j,S j->j<B):InS B k ws w1 ws' :=
 ⟨h.1,fun i o' o h1 h2=>by
   have:=h.2 i o' o h1 h2;by_cases hi:i<k
   ·rw[if_pos hi]at this⊢;exact this.mod hm hS
   ·rw[if_neg hi]at this⊢;exact this⟩
theorem InS.step{B k:Nat}{ws ws':List WayM}{w:World}{x x':WayM}(h:InS B k ws w ws')(ho:ws[k]? = some x)(hk:WayOK B w x' x):InS B (k+1) ws w (ws'.set k x') :=
 ⟨by rw[List.length_set];exact h.1,fun i p' p h1 h2=>by
   by_cases e:i=k
   ·subst e;rw[ho]at h2;obtain rfl:=qz h2;rw[if_pos (by omega)];have hl:i<ws'.length:=(by rw[h.1];exact(qB ho).1);rw[List.getElem?_set_self hl]at h1;obtain rfl:=qz h1;exact hk
   ·rw[List.getElem?_set_ne (Ne.symm e)]at h1;have:=h.2 i p' p h1 h2;by_cases hi:i<k
    ·rw[if_pos hi]at this;rw[if_pos (by omega)];exact this
    ·rw[if_neg hi]at this;rw[if_neg (by omega)];exact this⟩
theorem InS.all{B:Nat}{ws ws':List WayM}{w:World}(h:InS B ws.length ws w ws'):∀(i:Nat) (x' x:WayM),ws'[i]? = some x'->ws[i]? = some x->WayOK B w x' x:=fun i x' x h1 h2=>by
 have h3:=h.2 i x' x h1 h2;rwa[if_pos (qB h2).1]at h3
theorem yo.set1{α:Type}{B:Nat}{w:World}{enc:α->List Value}{g:Nat}{l:List α}{k:Nat}{x:α}{v:Value}(h:yo B w 1 enc (some ⟨g,0,none⟩) l)(hk:k<l.length)(he:∀y,(enc y).length=1)(hv:enc x=[v]):yo B (w.setCell ⟨g,k,none⟩ v) 1 enc (some ⟨g,0,none⟩) (l.set k x) :=
 ⟨h.1,fun hl=>⟨g,rfl,fun i y hy j u hu=>by
   obtain⟨g',e,hc⟩:=h.2 (by omega);cases e;have hj:j=0:=(by have:=(qB hu).1;rw[he]at this;omega);subst hj;obtain⟨y0,hy0⟩:∃y0,l[k]? = some y0:=⟨l[k],qM hk⟩;obtain⟨u0,hu0⟩:∃u0,(enc y0)[0]? = some u0:=⟨(enc y0)[0]'(by rw[he];omega),qM _⟩;have hk0:=hc k y0 hy0 0 u0 hu0;rw[show k*1+0=k by omega]at hk0;rw[show i*1+0=i by omega];by_cases e:i=k
   ·subst e;rw[List.getElem?_set_self hk]at hy;obtain rfl:=qz hy;rw[hv]at hu;obtain rfl:v=u:=(by simpa using hu);exact⟨qA (qL hk0.1),by simpa using hk0.2⟩
   ·rw[List.getElem?_set_ne (Ne.symm e)]at hy;have h9:=hc i y hy 0 u hu;rw[show i*1+0=i by omega]at h9
    exact⟨qj h9.1 (.inr e),by simpa using h9.2⟩⟩⟩
theorem WayOK.from{B B':Nat}{w:World}{x' x:WayM}(h:WayOK B w x' x)(hB:B'<=B):WayOK B' w x' x:=⟨h.l,h.c,h.own.from hB⟩
theorem Mod.old{S S':Nat->Prop}{w w1:World}(h:Mod S w w1)(hs:∀b,b<w.heap.size->S b->S' b):Mod S' w w1:=⟨h.os,h.tape,h.output,h.size,fun k hk hn=>h.block k hk (fun e=>hn (hs k hk e))⟩
theorem yo.set3{B:Nat}{w:World}{g:Nat}{l:List OrdM}{k:Nat}{o x:OrdM}(h:yo B w 3 Yf (some ⟨g,0,none⟩) l)(ho:l[k]? = some o)(hf:x.fr=o.fr)(ht:x.toT=o.toT):yo B (w.setCell ⟨g,k*3+2,none⟩ (.slice x.a x.ws.length x.c)) 3 Yf (some ⟨g,0,none⟩) (l.set k x) :=
 ⟨h.1,fun hl=>⟨g,rfl,fun i y hy j u hu=>by
   have hk:=(qB ho).1;obtain⟨g',e,hc⟩:=h.2 (by omega);cases e;have hj:j<3:=(qB hu).1;by_cases e:i=k
   ·subst e;rw[List.getElem?_set_self hk]at hy;obtain rfl:=qz hy;have h2:=hc i o ho 2 _ rfl;obtain rfl|rfl|rfl:j=0\/j=1\/j=2:=by omega
    ·have h0:=hc i o ho 0 _ rfl;simp[Yf]at hu;subst hu;rw[hf];exact⟨qj h0.1 (.inr (by simp)),by simpa using h0.2⟩
    ·have h0:=hc i o ho 1 _ rfl;simp[Yf]at hu;subst hu;rw[ht];exact⟨qj h0.1 (.inr (by simp)),by simpa using h0.2⟩
    ·simp[Yf]at hu;subst hu;exact⟨qA (qL h2.1),by simpa using h2.2⟩
   ·rw[List.getElem?_set_ne (Ne.symm e)]at hy;have h9:=hc i y hy j u hu
    exact⟨qj h9.1 (.inr (by simp only;omega)),by simpa using h9.2⟩⟩⟩
def ordK(o:OrdM):Int×Int×List (List Int):=(o.fr,o.toT,o.ws.map (·.l))
structure SameD (D' D:DayM):Prop where
 ts:D'.ts=D.ts
 gs:D'.gs=D.gs
 os:D'.os.map ordK=D.os.map ordK
 hs:D'.hs=D.hs
 cs:D'.cs=D.cs
theorem qcJ.same{B:Nat}{os os':List OrdM}{w:World}(h:qcJ B os.length os w os'):os'.map ordK=os.map ordK:=by
 refine List.ext_getElem? fun i=>?_;rw[List.getElem?_map,List.getElem?_map];by_cases hi:i<os.length
 ·have hi':i<os'.length:=by rw[h.1];exact hi
  have h3:=h.2 i _ _ (qM hi') (qM hi);rw[if_pos hi]at h3;rw[qM hi,qM hi'];simp only[Option.map_some,ordK,h3.fr,h3.tto,Option.some.injEq,Prod.mk.injEq,true_and];refine List.ext_getElem? fun j=>?_;rw[List.getElem?_map,List.getElem?_map];by_cases hj:j<os[i].ws.length
  ·have hj':j<os'[i].ws.length:=(by rw[h3.len];exact hj);rw[qM hj,qM hj'];simp only[Option.map_some,(h3.ways j _ _ (qM hj') (qM hj)).l]
  ·have hj':¬j<os'[i].ws.length:=(by rw[h3.len];exact hj);rw[List.getElem?_eq_none (by omega),List.getElem?_eq_none (by omega)]
 ·have hi':¬i<os'.length:=by rw[h.1];exact hi
  rw[List.getElem?_eq_none (by omega),List.getElem?_eq_none (by omega)]
def CopP(D:DayM)(w:World)(e:Ending)(w':World):Prop :=
 ∃D':DayM,e=.returned (dv D')/\Below w.heap.size w w'/\SameD D' D/\DaySm D'/\yo w.heap.size w' 5 YQ D'.ca D'.cs /\
  ∀(wx:World) (cs':List CalM),Mod (fun j=>j<w.heap.size\/(1<=D.cs.length/\∃p,D'.ca=some p/\p.block=j)) w' wx->qi wx 5 YQ D'.ca cs'->DayAt wx { D' with cs:=cs' }
theorem cop_end{D:DayM}{N3 N4 N5:Nat}{a1:Option Addr}{c1:Nat}{a2:Option Addr}{c2:Nat}{a3:Option Addr}{c3:Nat}{a4:Option Addr}{c4:Nat}{a5:Option Addr}{c5:Nat}{w wr:World}{os':List OrdM}
 (h:CopS D N3 N4 a1 c1 a2 c2 a3 c3 a4 c4 a5 c5 w wr) (ho:yo N4 wr 3 Yf a5 os') (hx:qcJ N5 D.os.length D.os wr os') (hN:N4<=N5) (hs:DaySm D) (hc1:D.ts.length<=c1) (hc2:D.gs.length<=c2) (hc3:D.hs.length<=c3) (hc4:D.cs.length<=c4) (hc5:D.os.length<=c5) {wf:World} (hf:Mod (fun j=>j=w.heap.size+1) wr wf) :
 CopP D w (.returned (.agg #[.slice a1 D.ts.length c1,.slice a2 D.gs.length c2,.slice a5 D.os.length c5,.slice a3 D.hs.length c3,.slice a4 D.cs.length c4])) wf:=by
 have hlt:=h.lt;have hle:=h.le
 have hall:∀(i:Nat) (o':OrdM),os'[i]? = some o'->∃o,D.os[i]? = some o/\OrdOK N5 wr o' o:=fun i o' h1=>by
  have hi:i<D.os.length:=by rw[<-hx.1];exact(qB h1).1
  have h3:=hx.2 i o' _ h1 (qM hi);rw[if_pos hi]at h3;exact⟨_,qM hi,h3⟩
 have hallm:∀o'∈os',∃o,o∈D.os/\OrdOK N5 wr o' o:=fun o' hm=>by
  obtain⟨i,hi⟩:=List.getElem?_of_mem hm;obtain⟨o,h1,h2⟩:=hall i o' hi;exact⟨o,qI h1,h2⟩
 have hway:∀{o' o:OrdM},OrdOK N5 wr o' o->∀x'∈o'.ws,∃x,x∈o.ws/\WayOK N5 wr x' x:=fun {o' o} hoo x' hm=>by
  obtain⟨i,hi⟩:=List.getElem?_of_mem hm;have hil:i<o.ws.length:=by rw[<-hoo.len];exact(qB hi).1
  exact⟨_,List.getElem_mem hil,hoo.ways i x' _ hi (qM hil)⟩
 refine⟨⟨D.ts,a1,c1,D.gs,a2,c2,os',a5,c5,D.hs,a3,c3,D.cs,a4,c4⟩,?_,h.bel.trans (hf.keep h.bel.size (fun j e=>by omega)),⟨rfl,rfl,hx.same,rfl,rfl⟩,?_,?_,?_⟩
 ·unfold dv;simp only[hx.1]
 ·refine⟨⟨hs.ts.1,hc1⟩,hs.nm,⟨hs.gs.1,hc2⟩,?_,?_,?_,⟨hs.hs.1,hc3⟩,⟨hs.cs.1,hc4⟩⟩
  ·simp only[hx.1];exact⟨hs.os.1,hc5⟩
  ·intro o' hm;obtain⟨o,h1,h2⟩:=hallm o' hm;exact⟨by rw[h2.len];exact(hs.ws o h1).1,h2.c⟩
  ·intro o' hm x' hm';obtain⟨o,h1,h2⟩:=hallm o' hm;obtain⟨x,h3,h4⟩:=hway h2 x' hm';exact⟨by rw[h4.l];exact(hs.ls o h1 x h3).1,h4.c⟩
 ·exact(h.cs.mod hf (fun p hp e=>by have:=h.cs.1 p hp;omega)).from (by omega)
 ·intro wx cs' hm hr;have hmm:Mod (fun j=>j=w.heap.size+1\/(j<w.heap.size\/(1<=D.cs.length/\∃p,a4=some p/\p.block=j))) wr wx:=(hf.mono fun b e=>.inl e).trans (hm.mono fun b e=>.inr e)
  have hfar:∀{n:Nat},N4<=n->¬(n=w.heap.size+1\/(n<w.heap.size\/(1<=D.cs.length/\∃p,a4=some p/\p.block=n))):=fun {n} hn e=>by
   rcases e with e|e|⟨e,p,hp,e2⟩
   ·omega
   ·omega
   ·have:=h.b4 e p hp;omega
  have hnear:∀{n:Nat},w.heap.size+2<=n->n<N3->¬(n=w.heap.size+1\/(n<w.heap.size\/(1<=D.cs.length/\∃p,a4=some p/\p.block=n))):=fun {n} hn hn2 e=>by
   rcases e with e|e|⟨e,p,hp,e2⟩
   ·omega
   ·omega
   ·have:=h.b4 e p hp;omega
  refine⟨?_,?_,?_,?_,?_,?_,hr⟩
  ·exact(h.ts.mod2 hmm (fun hl p hp=>hnear (h.ts.1 p hp) (h.b1 hl p hp))).rows
  ·exact(h.gs.mod2 hmm (fun hl p hp=>hnear (h.gs.1 p hp) (h.b2 hl p hp))).rows
  ·exact(ho.mod hmm (fun p hp=>hfar (ho.1 p hp))).rows
  ·intro o' hm';obtain⟨o,h1,h2⟩:=hallm o' hm';exact(h2.own.mod hmm (fun p hp=>hfar (Nat.le_trans hN (h2.own.1 p hp)))).rows
  ·intro o' hm' x' hmx;obtain⟨o,h1,h2⟩:=hallm o' hm';obtain⟨x,h3,h4⟩:=hway h2 x' hmx;exact(h4.own.mod hmm (fun p hp=>hfar (Nat.le_trans hN (h4.own.1 p hp)))).rows
  ·exact(h.hs.mod2 hmm (fun hl p hp=>hnear (h.hs.1 p hp) (h.b3 hl p hp))).rows
def Qt(w w':World):Prop:=∀a v,w.cell? a=some v->w'.cell? a=some v/\w'.frozen? a=w.frozen? a
theorem Qt.refl(w:World):Qt w w:=fun _ _ h=>⟨h,rfl⟩
theorem Qt.trans{w w1 w2:World}(h:Qt w w1)(k:Qt w1 w2):Qt w w2:=fun a v hc=>⟨(k a v (h a v hc).1).1,((k a v (h a v hc).1).2).trans (h a v hc).2⟩
theorem Qt.below{w w1:World}(hB:Below w.heap.size w w1):Qt w w1:=fun a v hc=>⟨qb _ hB hc,World.frozen?_of_block (hB.block a.block (lt_of_cell hc))⟩
theorem Qt.alloc(w:World)(o:Obj):Qt w (w.alloc o):=Qt.below ((Below.refl _ w).alloc ql o)
theorem Qt.own{α:Type}{B k:Nat}{w w1:World}{enc:α->List Value}{a:Option Addr}{l:List α}(hk:Qt w w1)(h:yo B w k enc a l):yo B w1 k enc a l :=
 ⟨h.1,fun hl=>by
   obtain⟨g,e,h⟩:=h.2 hl
   exact⟨g,e,fun i x hx j v hv=>⟨(hk _ _ (h i x hx j v hv).1).1,(hk _ _ (h i x hx j v hv).1).2.trans (h i x hx j v hv).2⟩⟩⟩
theorem ckept_of{w w':World}{base e size b0:Nat}(ho:w.ownsRow base e size (.slice (some ⟨b0,0,none⟩) 0 0) 0 [])(hg:w.grownBy w' (some b0)):Qt w w':=fun a v hc=>by
 have hne:a.block≠b0:=fun e9=>by
  obtain⟨_,⟨h1,_⟩|⟨g,cap,cur,h1,h2,h3,h4,h5,h6,h7⟩⟩:=ho
  ·cases h1
  ·cases h1;unfold World.cell? at hc;rw[e9,h3]at hc;have:cur.size=0:=(by rw[h6];simp);simp at hc;have hcs:=Array.eq_empty_of_size_eq_zero this;subst hcs;simp at hc
 exact⟨(World.cell?_of_block (hg.block a.block (lt_of_cell hc) (fun e=>hne (qz e)))).trans hc,World.frozen?_of_block (hg.block a.block (lt_of_cell hc) (fun e=>hne (qz e)))⟩
theorem qbp{w:World}{base e size b:Nat}(hb:w.heap.size=b)(h:base<=b):(w.alloc (.cells #[] e)).ownsRow base e size (.slice (some ⟨b,0,none⟩) 0 0) 0 []:=by
 subst hb;exact World.ownsRow_made w #[] 0 h (by unfold maxLen;omega) (by simp)
end Go.Proofs.Tryz
