/-
  Lemmas about the program and the machine (D34 to D36), upon which the last text of this claim rests; no condition.
-/
import Derived.Test.YtjkbbnphdbgjiaaGreatDoorCxClaixMorex01
import Derived.Test.YtjkbbnphdbgjiaaGreatDoorCz21
set_option linter.unusedSimpArgs false
set_option linter.unusedVariables false
set_option maxRecDepth 100000
set_option maxHeartbeats 4000000
namespace Go.Proofs.Tryz
open Go Go.Load Go.LoadR Go.RowKit
theorem qaK(P:List Int)(a:Option Addr)(c:Nat)(hl:P.length<=20)(hlc:P.length<=c)(w:World)(hr:qi w 1 encI a P):Calls qo 33 #[.slice a P.length c] w fun e w'=>e=.returned (.int .i64 ((P.countP fun k=>k == -1:Nat):Int))/\w=w':=by
 obtain⟨R,hR⟩:∃R,((P.countP fun k=>k == -1:Nat):Int)=R:=⟨_,rfl⟩;rw[hR];have HR:=qd hR;have HX:=qd hr;clear hR hr;go_enter (sf 33 f33),ntmps33;go_wp2;obtain⟨X,hX⟩:∃X,X=w:=⟨_,rfl⟩;subst hX;go_loopw [4,3] (fun i q wr=>∃(k:Nat) (m:Int),i=.int .i64 k/\q=.int .i64 m/\k<=P.length/\0<=m/\m<=k/\wr=X/\Hid (m+((P.drop k).countP fun k=>k == -1:Nat)=R)) (fun i _ _=>P.length-(intOf i).toNat);case atStart=>exact⟨0,0,rfl,rfl,by omega,by omega,by omega,rfl,qd (by rw[<-HR.out];simp)⟩
 case round =>
  obtain⟨k,m,rfl,rfl,hk,hm0,hm1,rfl,HN⟩:=hrel;by_cases hlt:k<P.length
  ·obtain⟨x,hx⟩:∃x,P[k]? = some x:=⟨_,qG hlt⟩;obtain⟨b,o,rfl,hQ⟩:=HX.out (by omega);have c0:=hQ k x hx 0 _ rfl;simp only[Nat.mul_one,Nat.add_zero]at c0;have hk1:(k:Int)<(P.length:Int):=(by omega);have hk2:(k:Int)<=(c:Int):=(by omega);have hN:=HN.out;rw[QQ _ hx]at hN;have hwr:wrap64 (m+1)=m+1:=wrap_small (by omega) (by omega);have HN2:=qd hN;clear hQ hx hN;by_cases e1:x=-1
   ·have g1:(x == -1)=true:=(by simp[e1]);go_wp2;go_roundw;(case rel=>exact⟨k+1,m+1,rfl,rfl,by omega,by clear hwr;omega,by clear hwr;omega,(by first|rfl|trivial),qd (by have e:=HN2.out;rw[if_pos g1]at e;clear hwr;omega)⟩);case measure=>simp[intOf];omega
   ·have g1:(x == -1)=false:=(by simpa using e1);go_wp2;go_roundw;(case rel=>exact⟨k+1,m,rfl,rfl,by omega,by clear hwr;omega,by clear hwr;omega,(by first|rfl|trivial),qd (by have e:=HN2.out;rw[if_neg (by simpa using e1)]at e;clear hwr;omega)⟩);case measure=>simp[intOf];omega
  ·obtain rfl:k=P.length:=(by omega);have hN:=HN.out;rw[List.drop_eq_nil_of_le ql,List.countP_nil]at hN;have hN2:m=R:=(by simpa using hN);subst hN2;clear hN HN;go_wp2;go_ret;exact⟨rfl,rfl⟩
def qbw(l m:List Int):List Int:=List.zipWith (·+·) l m
theorem Zf{l m:List Int}(h:m.length=l.length):(qbw l m).length=l.length:=by unfold qbw;rw[List.length_zipWith,h,Nat.min_self]
theorem Js{l m:List Int}{k:Nat}{a b:Int}(ha:l[k]? = some a)(hb:m[k]? = some b):(qbw l m)[k]? = some (a+b):=by unfold qbw;rw[List.getElem?_zipWith,ha,hb]
def Yt(D:DayM)(ls:List (List Int))(more:List Int):Nat:=ls.foldl (fun m l=>max m (xI D (setOf (qy (qbw l more))))) 0
theorem qeH(D:DayM)(ls:List (List Int))(l more:List Int):Yt D (ls++[l]) more=max (Yt D ls more) (xI D (setOf (qy (qbw l more)))):=by unfold Yt;rw[List.foldl_append];rfl
theorem add_play{D:DayM}(hz:checkN D=0){l m:List Int}(hl:l.length=D.gs.length)(hm:m.length=D.gs.length)(h6:∀y∈l,0<=y/\y<=6)(h3:∀y∈m,0<=y/\y<=3):zT D (qbw l m)=0:=by
 unfold zT;rw[if_neg (by simpa using hz),if_neg (by rw[Zf (by omega)];simpa using hl),if_neg];rw[List.all_eq_true.2]
 ·decide
 ·intro x hx;obtain⟨k,hk,rfl⟩:=List.getElem_of_mem hx;have hk2:=hk;rw[Zf (by omega)]at hk2;have e:=Js (qG hk2) (qG (l:=m) (by omega:k<m.length));rw[qG hk]at e;have h1:=h6 _ (List.getElem_mem hk2);have h2:=h3 _ (List.getElem_mem (by omega:k<m.length));rw[qB e];exact zF.2 (by omega)
theorem qdX(D:DayM)(w:World)(h:DayAt w D)(hs:DaySm D)(hG:Globs w)(hz:checkN D=0)(ws:List WayM)(wa:Option Addr)(wc:Nat)(hwl:ws.length<=81)(hwc:ws.length<=wc)(hwr:qi w 1 yU wa ws)(hws:qdx D w ws)(m:List Int)(ma:Option Addr)(mc:Nat)(hm:m.length=D.gs.length)(hmc:D.gs.length<=mc)(hmr:qi w 1 encI ma m)(hm3:∀x∈m,0<=x/\x<=3) :
 Calls qo 22 #[dv D,.slice wa ws.length wc,.slice ma D.gs.length mc] w fun e w'=>e=.returned (.int .i64 (Yt D (ws.map (·.l)) m))/\Below w.heap.size w w':=by
 have hdv:dv D=.agg #[.slice D.ta D.ts.length D.tc,.slice D.ga D.gs.length D.gc,.slice D.oa D.os.length D.oc,.slice D.ha D.hs.length D.hc,.slice D.ca D.cs.length D.cc]:=rfl;have hcl:=hs.cs.1;have hg4:=(qE D hz).gs
 have hpl:∀x∈ws,∀V,Below w.heap.size w V->∀a c,D.gs.length<=c->qi V 1 encI a (qbw x.l m)->Calls qo 31 #[dv D,.slice a D.gs.length c] V fun e w'=>Below V.heap.size V w'/\∃P:List Int,P.length=D.cs.length/\(P.countP fun k=>k == -1)=xI D (setOf (qy (qbw x.l m)))/\∃a c,e=.returned (.tuple #[.slice a D.cs.length c,.bool true])/\D.cs.length<=c/\qi w' 1 encI a P:=fun x hx V hB a c hc hr=>by
  have ho:=hws x hx;have hal:(qbw x.l m).length=D.gs.length:=by rw[Zf (by omega)];exact ho.2.2.1
  have hp:=qgD D (qbw x.l m) a c V (h.keep hB) hs (hG.keep hB) (add_play hz ho.2.2.1 hm ho.2.2.2 hm3) (by omega) (by omega) hr;rw[hal]at hp;exact hp.mono fun e w' hq=>⟨hq.1,_,qK D _,rfl,hq.2⟩
 rw[hdv]at hpl⊢;have HPL:=qd hpl;have HWS:=qd hws;have HWR:=qd hwr;have HMR:=qd hmr;have HM3:=qd hm3;have HML:=qd hm;clear hpl hws hwr hmr hm3 h hs hG hz hdv hm;obtain⟨i0,hi,hiz,his,hib⟩:=info_parts yX;have hUI:qo.underlying 31=some (.slice 3):=(qH _).trans Tryz.underlying31;obtain⟨W,hW⟩:∃W,w.alloc (Obj.cells #[.slice D.ta D.ts.length D.tc,.slice D.ga D.gs.length D.gc,.slice D.oa D.os.length D.oc,.slice D.ha D.hs.length D.hc,.slice D.ca D.cs.length D.cc] 28)=W:=⟨_,rfl⟩;have h5:B5 W w.heap.size (.slice D.ta D.ts.length D.tc) (.slice D.ga D.gs.length D.gc) (.slice D.oa D.os.length D.oc) (.slice D.ha D.hs.length D.hc) (.slice D.ca D.cs.length D.cc):=by subst hW;exact B5.new ..
 have hBW:Below w.heap.size w W:=by subst hW;go_grown
 have H5:=qd h5;have hwW:w.heap.size<W.heap.size:=lt_of_cell h5.c0;clear h5;go_enter (sf 22 f22),ntmps22;go_upto_region 1 with fail;try rw[hW]
 clear hW;go_wp2;obtain⟨T,hT⟩:∃T,T=W:=⟨_,rfl⟩;subst hT;go_loopw [8,7] (fun i q wr=>∃(k m2:Nat),i=.int .i64 k/\q=.int .i64 m2/\k<=ws.length/\Hid (Below T.heap.size T wr)/\Hid (m2=Yt D ((ws.take k).map (·.l)) m)) (fun i _ _=>ws.length-(intOf i).toNat);case atStart=>exact⟨0,0,rfl,rfl,by omega,qd (Below.refl _ _),qd rfl⟩
 case round =>
  obtain⟨i,m2,rfl,rfl,hi9,HB,HM⟩:=hrel;obtain⟨U,hU⟩:∃U,U=wr:=⟨_,rfl⟩;subst hU;have hB1:=bcl hBW HB.out;by_cases hlt:i<ws.length
  ·obtain⟨x,hx⟩:∃x,ws[i]? = some x:=⟨_,qG hlt⟩;obtain⟨wb,wo,rfl,hP⟩:=HWR.out (by omega);have c0:=qb _ hB1 (hP i x hx 0 _ rfl);simp only[Nat.mul_one,Nat.add_zero]at c0;have hi1:(i:Int)<(ws.length:Int):=(by omega);have hi2:(i:Int)<=(wc:Int):=(by omega);have hxm:=qI hx;have hxo:=HWS.out x hxm;have HC:=qd (HPL.out x hxm);have HMX:Hid (Yt D ((ws.take (i+1)).map (·.l)) m=max m2 (xI D (setOf (qy (qbw x.l m))))):=qd (by rw[List.take_add_one,hx,List.map_append,HM.out];exact qeH D _ x.l m);obtain⟨L,hL⟩:∃L,qbw x.l m=L:=⟨_,rfl⟩;have hLl:L.length=D.gs.length:=(by rw[<-hL,Zf (by have:=HML.out;have:=hxo.2.2.1;omega)];exact hxo.2.2.1);have hLg:∀(k:Nat) (a b:Int),x.l[k]? = some a->m[k]? = some b->L[k]? = some (a+b):=fun k a b ha hb=>(by rw[<-hL];exact Js ha hb);rw[hL]at HC HMX;obtain⟨xl,xa,xc⟩:=x;simp only at c0 hxo hLg;have HXR:=qd (hxo.1);have HX6:=qd hxo.2.2.2;have hxc:=hxo.2.1;have HXN:=qd hxo.2.2.1;rw[hxo.2.2.1]at c0;have HLG:=qd hLg;have HLL:=qd hLl;have hUw:w.heap.size<=U.heap.size:=hB1.size;clear hP hx hxm hxo hL hLg hLl;go_upto_region 6 with fail;go_wp2;go_loopw [10,9] (fun j u wr=>∃(k:Nat) (v:Value),j=.int .i64 k/\v=u/\k<=D.gs.length/\Hid (Below U.heap.size U wr)/\Hid (wr.ownsRow U.heap.size 3 1 v k ((L.take k).map (.int .i64)))) (fun j _ _=>D.gs.length-(intOf j).toNat);case atStart=>exact⟨0,_,rfl,rfl,by omega,qd (Below.refl _ _),qd (World.ownsRow_nil _ _ _ _)⟩
   case round =>
    obtain⟨k,v,rfl,rfl,hk,HBk,HO⟩:=hrel;have hBk:=bcl hB1 HBk.out;have d0:=qb _ HBk.out c0;by_cases hlt2:k<D.gs.length
    ·obtain⟨a9,ha9⟩:∃a,xl[k]? = some a:=⟨_,qG (by have:=HXN.out;omega)⟩;obtain⟨b9,hb9⟩:∃b,m[k]? = some b:=⟨_,qG (by have:=HML.out;omega)⟩;have h6:=HX6.out a9 (qI ha9);have h3:=HM3.out b9 (qI hb9);obtain⟨xb,xo,rfl,hQ⟩:=HXR.out (by have:=HXN.out;omega);obtain⟨mb,mo,rfl,hR⟩:=HMR.out (by have:=HML.out;omega);have q1:=qb _ hB1 (hQ k a9 ha9 0 _ rfl);have r1:=qb _ hB1 (hR k b9 hb9 0 _ rfl);simp only[Nat.mul_one,Nat.add_zero]at q1 r1;have HS9:=qd (show RHL [(⟨wb,wo+i,none⟩,.slice (some ⟨xb,xo,none⟩) D.gs.length xc),(⟨xb,xo+k,none⟩,.int .i64 a9),(⟨mb,mo+k,none⟩,.int .i64 b9)] U U from⟨c0,q1,r1,Below.refl _ _⟩);have q0:=qb _ HBk.out q1;have r0:=qb _ HBk.out r1;clear q1 r1;have hk1:(k:Int)<(D.gs.length:Int):=(by omega);have hk2:(k:Int)<=(xc:Int):=(by have:=HXN.out;omega);have hk4:(k:Int)<=(mc:Int):=(by omega);have hwp:IntKind.i64.wrap (a9+b9)=a9+b9:=(by rw[IntKind.wrap_i64];omega);have HL9:=qd (HLG.out k a9 b9 ha9 hb9);have hkU:U.heap.size<=wr.heap.size:=HBk.out.size;clear hQ hR ha9 hb9 h6 h3;go_upto_region 9 with fail;have hS0:RHL [(⟨wb,wo+i,none⟩,.slice (some ⟨xb,xo,none⟩) D.gs.length xc),(⟨xb,xo+k,none⟩,.int .i64 a9),(⟨mb,mo+k,none⟩,.int .i64 b9)] U wr:=⟨d0,q0,r0,HBk.out⟩;refine wp_region_held_drew (S:=(RHL [(⟨wb,wo+i,none⟩,.slice (some ⟨xb,xo,none⟩) D.gs.length xc),(⟨xb,xo+k,none⟩,.int .i64 a9),(⟨mb,mo+k,none⟩,.int .i64 b9)] U)) (by kernel_rfl) (by exact RHL.drew hS0) (fun hHeld=>?_);refine tk 0 ?_;refine tk 1 ?_;refine tk 2 ?_;refine tk 3 ?_;refine tk 4 ?_;refine tk 5 ?_;refine tk 6 ?_;refine tk 7 ?_
     refine tk 8 ?_;refine tk 9 ?_;refine tk 10 ?_;refine tk 11 ?_;(refine tk 12 ?_;try simp only[zs,Act.put]);have HWP:=qd hwp;clear hwp;refine tkR 13 fun K hK=>?_;go_simp;refine hK.out _ _ (by exact RHL.call hHeld ((Below.refl _ _).alloc ql _)) (fun hHeldN=>?_);clear hK K hHeld;have hHeld:=hHeldN;clear hHeldN;(try simp only[zs,Act.put]);have hB2:Below wr.heap.size wr (wr.drew.alloc (Obj.cells #[.int .i64 (a9+b9)] 3)):=(by go_grown);have hNC:(wr.drew.alloc (Obj.cells #[.int .i64 (a9+b9)] 3)).cell? ⟨wr.heap.size,0,none⟩=some (.int .i64 (a9+b9)):=(by go_cell);have hBT:=bcl HBk.out hB2;have hOwn:=zf HO.out hB2;have HGO:=qd hOwn;refine tkR 14 fun K hK=>?_;refine step_append_lies _ rfl (.tmp 28) (.tmp 41) 31 rfl U.heap.size 3 i0 (.int .i64 0) 1 8 hUI hi hiz his hib rfl (by decide) _ _ _ rfl hOwn _ 1 1 [.int .i64 (a9+b9)] rfl rfl (xz hNC) (by simp[Value.oneCell']) (by decide) (by unfold maxLen;omega) (by omega) hBT.size _ rfl ?_;intro g2 c2 Y2 n2 q2 a2 b2;have hB3:Below U.heap.size U Y2:=hBT.trans ((Mod.grown (S:=fun b=>v.ownBlock=some b) q2 (fun b e=>e)).keep hBT.size (fun b hb=>(HGO.out.lt b hb).1));refine hK.out _ _ (by exact RHL.call HS9.out hB3) (fun hHeldN=>?_);clear hK K hHeld;have hHeld:=hHeldN;clear hHeldN;(try simp only[zs,Act.put]);(refine tk 15 ?_;try simp only[zs,Act.put]);refine wpAnyH_done (by kernel_rfl) ?_ _;(try simp only[zs,Act.put]);clear hHeld;go_wp2;go_roundw
     case rel =>
      refine⟨k+1,.slice (some ⟨g2,0,none⟩) (k+1) c2,rfl,rfl,by omega,qd hB3,qd ?_⟩;rw[List.take_add_one,HL9.out,List.map_append];exact n2
     case measure=>simp[intOf];omega
    ·obtain rfl:k=D.gs.length:=(by omega);have hO:=HO.out;rw[List.take_of_length_le (by rw[HLL.out];exact ql)]at hO;obtain⟨ra,rc,hv,hrc,hrr⟩:=zt hO;subst hv;have HC2:=qd (HC.out _ hBk ra rc hrc hrr);obtain⟨k0,k1,k2,k3,k4⟩:=H5.out.keep (bcl HB.out HBk.out);clear hO HO hrr HC;go_upto_region 11 with(go_at_call 31;(with_reducible refine HC2.out.mono ?_);intro e V3 hq;obtain⟨hB4,P,hPl,hPc,pa,pc,he,hpc,hpr⟩:=hq;subst he);have hB5:=bcl (Below.call HB.out HBk.out ql) hB4;have hre:=qaK P pa pc (by omega) (by omega) V3 hpr;rw[hPl,hPc]at hre;have HRE:=qd hre;clear hre hPl hPc hpr;have hmx:Value.int .i64 (max (m2:Int) ((xI D (setOf (qy L)):Nat):Int))=.int .i64 ((max m2 (xI D (setOf (qy L))):Nat):Int):=(by rw[JO]);go_wp2_with (go_at_call 33;(with_reducible refine HRE.out.mono ?_);rintro e V4 ⟨rfl,rfl⟩);go_roundw;(case rel=>exact⟨i+1,max m2 (xI D (setOf (qy L))),rfl,(by first|rfl|exact hmx),by omega,qd hB5,qd (by first|exact HMX.out.symm|(rw[HMX.out]))⟩);case measure=>simp[intOf];omega
  ·obtain rfl:i=ws.length:=(by omega);have hM:=HM.out;rw[List.take_length]at hM;go_wp2;go_ret;exact⟨by rw[hM];rfl,hB1⟩
theorem qeX(f:Int->Int)(l:List Int):∀(m:List Int) (k:Int) (b B:Int),(k=-1/\b=B/\(∀x∈m,B<=f x)\/∃j:Nat,k=(j:Int)/\j<m.length/\b<B/\(∃x,m[j]? = some x/\f x=b)/\(∀(i:Nat) x,m[i]? = some x->b<=f x/\(f x=b->j<=i)))->∃k' b',Yj f m.length (k,b) l=(k',b')/\(k'=-1/\b'=B/\(∀x∈m++l,B<=f x)\/∃j:Nat,k'=(j:Int)/\j<(m++l).length/\b'<B/\(∃x,(m++l)[j]? = some x/\f x=b')/\(∀(i:Nat) x,(m++l)[i]? = some x->b'<=f x/\(f x=b'->j<=i))):=by
 induction l with
 | nil=>intro m k b B h;exact⟨k,b,rfl,by simpa using h⟩
 | cons y l ih =>
   intro m k b B h;have hmm:m++y::l=(m++[y])++l:=(by simp);have hlen:m.length+1=(m++[y]).length:=(by simp);unfold Yj;rw[hmm,hlen]
   have get:∀(i:Nat) x,(m++[y])[i]? = some x->m[i]? = some x\/(i=m.length/\x=y):=fun i x hx=>by
    by_cases e:i<m.length
    ·rw[List.getElem?_append_left e]at hx;exact .inl hx
    ·rw[List.getElem?_append_right (by omega)]at hx;obtain⟨h1,h2⟩:=qC hx;simp at h1;refine .inr ⟨by omega,?_⟩;rw[<-h2];simp
   by_cases hy:f y<b
   ·rw[if_pos hy];refine ih (m++[y]) _ _ B (.inr ⟨m.length,rfl,by simp,?_,⟨y,by simp,rfl⟩,fun i x hx=>?_⟩)
    ·rcases h with⟨_,rfl,_⟩|⟨j,_,_,h1,_⟩<;>omega
    ·rcases get i x hx with hx|⟨rfl,rfl⟩
     ·have:b<=f x:=by
       rcases h with⟨_,rfl,h2⟩|⟨j,_,_,_,_,h2⟩
       ·exact h2 x (qI hx)
       ·exact(h2 i x hx).1
      exact⟨by omega,fun e=>by omega⟩
     ·exact⟨by omega,fun _=>ql⟩
   ·rw[if_neg hy];refine ih (m++[y]) _ _ B ?_;rcases h with⟨rfl,rfl,h2⟩|⟨j,rfl,hj,h1,⟨x,hx,hf⟩,h2⟩
    ·refine .inl ⟨rfl,rfl,fun x hx=>?_⟩;rcases List.mem_append.1 hx with hx|hx
     ·exact h2 x hx
     ·rw[List.mem_singleton]at hx;subst hx;omega
    ·refine .inr ⟨j,rfl,by simp;omega,h1,⟨x,by rw[List.getElem?_append_left hj];exact hx,hf⟩,fun i z hz=>?_⟩;rcases get i z hz with hz|⟨rfl,rfl⟩
     ·exact h2 i z hz
     ·exact⟨by omega,fun _=>by omega⟩
theorem bestN_is(f:Int->Int)(n:Nat)(B:Int):((ZJ f (xP n) B).1=-1/\(ZJ f (xP n) B).2=B/\∀k:Nat,k<n->B<=f k)\/∃j:Nat,(ZJ f (xP n) B).1=j/\j<n/\(ZJ f (xP n) B).2<B/\f j=(ZJ f (xP n) B).2/\∀k:Nat,k<n->(ZJ f (xP n) B).2<=f k/\(f k=(ZJ f (xP n) B).2->j<=k):=by
 obtain⟨k',b',e,h⟩:=qeX f (xP n) [] (-1) B B (.inl ⟨rfl,rfl,fun x hx=>by cases hx⟩);unfold ZJ;rw[show(0:Nat)=([]:List Int).length from rfl,e];rw[List.nil_append]at h;rcases h with⟨rfl,rfl,h2⟩|⟨j,rfl,hj,h1,⟨x,hx,hf⟩,h2⟩
 ·exact .inl ⟨rfl,rfl,fun k hk=>h2 k (qI (jH hk))⟩
 ·rw[yI]at hj;refine .inr ⟨j,rfl,hj,h1,?_,fun k hk=>h2 k k (jH hk)⟩;rw[jH hj]at hx;cases hx;exact hf
theorem qhc{x m:Int}(hx:0<=x):Int.tmod x m=x%m:=Int.tmod_eq_emod_of_nonneg hx
def oneL(n k:Nat):List Int:=(List.replicate n 0).set k 1
theorem JR(n k:Nat):(oneL n k).length=n:=by unfold oneL;simp
theorem oneL_le(n k:Nat):∀x∈oneL n k,0<=x/\x<=3:=fun x hx=>by
 unfold oneL at hx;rcases List.mem_or_eq_of_mem_set hx with hx|rfl
 ·rw[List.mem_replicate]at hx;omega
 ·omega
theorem qei{n k:Nat}(hn:n<=4)(hk:k<n):qy (oneL n k)=oneP k:=by
 match n,k,hn,hk with
 | 1,0,_,_=>rfl
 | 2,0,_,_=>rfl
 | 2,1,_,_=>rfl
 | 3,0,_,_=>rfl
 | 3,1,_,_=>rfl
 | 3,2,_,_=>rfl
 | 4,0,_,_=>rfl
 | 4,1,_,_=>rfl
 | 4,2,_,_=>rfl
 | 4,3,_,_=>rfl
theorem qeR{l m:List Int}(hl:l.length<=4)(h:m.length=l.length):qy (qbw l m)=(qy l).add (qy m):=by
 refine PastM.same fun j hj=>?_;rw[PastM.add_get,zy _ hj,zy _ hj,zy _ hj];simp only[List.getD_eq_getElem?_getD];by_cases e:j<l.length
 ·rw[Js (qG e) (qG (by omega:j<m.length)),qG e,qG (by omega:j<m.length)];rfl
 ·rw[List.getElem?_eq_none (by rw[Zf h];omega),List.getElem?_eq_none (by omega),List.getElem?_eq_none (by omega)];rfl
theorem worstL_N{D:DayM}(hz:checkN D=0){m:List Int}(hm:m.length=D.gs.length):Yt D (qO D) m=zJ D (qw D) (qy m):=by
 have h4:=(qE D hz).gs
 have key:∀(ls:List (List Int)) (n:Nat),(∀u∈ls,u.length=D.gs.length)->ls.foldl (fun m2 l=>max m2 (xI D (setOf (qy (qbw l m))))) n=(ls.map qy).foldl (fun m2 p=>max m2 (xI D (setOf (p.add (qy m))))) n:=by
  intro ls
  induction ls with
  | nil=>intro n _;rfl
  | cons u ls ih =>
    intro n hu;have h1:=hu u (List.mem_cons_self);rw[List.foldl_cons,List.map_cons,List.foldl_cons,qeR (by omega) (by omega)];exact ih _ (fun v hv=>hu v (List.mem_cons_of_mem _ hv))
 unfold Yt zJ;rw[<-ym D h4];exact key _ _ (fun u hu=>(ZY hz u hu).1)
theorem qdW{D:DayM}(hz:checkN D=0)(hne:qw D≠[]):∃p:Int,qby (XJ D)=.agg #[.int .i64 p,.int .i64 (zJ D (qw D) zM:Nat)]:=by
 have hn:((qw D).map fun p=>jb D (setOf p))≠[]:=by simpa using hne
 obtain⟨h1,h2,h3⟩:=qcH _ hn
 have key:∀(l:List PastM) (n:Nat),n<=l.foldl (fun m p=>max m (xI D (setOf (p.add zM)))) n/\(∀p∈l,xI D (setOf p)<=l.foldl (fun m p=>max m (xI D (setOf (p.add zM)))) n)/\(l.foldl (fun m p=>max m (xI D (setOf (p.add zM)))) n=n\/∃p∈l,l.foldl (fun m p=>max m (xI D (setOf (p.add zM)))) n=xI D (setOf p)):=by
  intro l
  induction l with
  | nil=>intro n;exact⟨ql,fun p hp=>(by cases hp),.inl rfl⟩
  | cons q l ih =>
    intro n;rw[List.foldl_cons,PastM.add_zero];obtain⟨k1,k2,k3⟩:=ih (max n (xI D (setOf q)));refine⟨by omega,fun p hp=>?_,?_⟩
    ·rcases List.mem_cons.1 hp with rfl|hp
     ·omega
     ·exact k2 p hp
    ·rcases k3 with k3|⟨p,hp,k3⟩
     ·by_cases e:xI D (setOf q)<=n
      ·left;rw[k3];omega
      ·right;exact⟨q,List.mem_cons_self,by rw[k3];omega⟩
     ·right;exact⟨p,List.mem_cons_of_mem _ hp,k3⟩
 obtain⟨_,k2,k3⟩:=key (qw D) 0
 have e:(yf ((qw D).map fun p=>jb D (setOf p))).2=((zJ D (qw D) zM:Nat):Int):=by
  show _=(((qw D).foldl (fun m p=>max m (xI D (setOf (p.add zM)))) 0:Nat):Int)
  generalize(qw D).foldl (fun m p=>max m (xI D (setOf (p.add zM)))) 0=X at *
  obtain⟨p,hp,e2⟩:=List.mem_map.1 h2;have h4:=k2 p hp;have e3:=YJ D (setOf p);have le:(yf ((qw D).map fun p=>jb D (setOf p))).2<=(X:Int):=by rw[<-e2];simp only[e3];omega
  rcases k3 with k3|⟨q,hq,k3⟩
  ·have:(0:Int)<=(yf ((qw D).map fun p=>jb D (setOf p))).2:=(by rw[<-e2];simp only[e3];omega);omega
  ·have h5:=(h3 _ (List.mem_map.2 ⟨q,hq,rfl⟩)).2;simp only[YJ D (setOf q)]at h5;omega
 exact⟨(yf ((qw D).map fun p=>jb D (setOf p))).1,by rw[<-e];exact QP _ hn⟩
theorem qgl{D:DayM}(hz:checkN D=0)(hne:qw D≠[]):∃(G M X p:Int) (f:Nat->Int),(∀k,f k=(zJ D (qw D) (oneP k):Nat))/\qgj D=(G,M)/\qby (XJ D)=.agg #[.int .i64 p,.int .i64 X]/\((G=-1/\M=X/\∀k,k<D.gs.length->X<=f k)\/∃j:Nat,G=(j:Int)/\j<D.gs.length/\M<X/\f j=M/\∀k,k<D.gs.length->M<=f k/\(f k=M->j<=k)):=by
 obtain⟨p,hp⟩:=qdW hz hne;have h:=bestN_is (fun i=>zJ D (qw D) (oneP i.toNat)) D.gs.length (zJ D (qw D) zM);exact⟨(qgj D).1,(qgj D).2,_,p,fun k=>(zJ D (qw D) (oneP k):Nat),fun _=>rfl,rfl,hp,h⟩
theorem JS(w:World){n j:Nat}(hj:j<n)(Z:World)(hZ:w.alloc (.cells (madeCells #[.int .i64 0] n) 3)=Z):Z.cell? ⟨w.heap.size,j,none⟩=some (.int .i64 0)/\Z.frozen? ⟨w.heap.size,j,none⟩=false/\Z.heap.size=w.heap.size+1/\Below w.heap.size w (Z.setCell ⟨w.heap.size,j,none⟩ (.int .i64 1))/\qi (Z.setCell ⟨w.heap.size,j,none⟩ (.int .i64 1)) 1 encI (some ⟨w.heap.size,0,none⟩) (oneL n j):=by
 have hs:(madeCells #[Value.int .i64 0] n).size=n:=size_madeCells _ _;have hb:Z.heap[w.heap.size]? = some (.cells (madeCells #[.int .i64 0] n) 3 (0,0)):=by rw[<-hZ];exact World.alloc_heap_new w _
 have hc:∀i,i<n->Z.cell? ⟨w.heap.size,i,none⟩=some (.int .i64 0):=fun i hi=>by
  unfold World.cell?;rw[hb]
  have:(madeCells #[Value.int .i64 0] n)[i]? = some (.int .i64 0):=by
   rw[Array.getElem?_eq_getElem (by omega)];simp[madeCells,Nat.mod_one]
  simpa using this
 have hB:Below w.heap.size w Z:=by rw[<-hZ];exact(Below.refl _ _).alloc ql _
 refine⟨hc j hj,?_,by rw[<-hZ];simp,hB.setCell (p:=⟨w.heap.size,j,none⟩) ql _,fun _=>⟨w.heap.size,0,rfl,fun i x hx q v hv=>?_⟩⟩
 ·unfold World.frozen?;rw[hb];simp
 ·have hi:=(qC hx).1;rw[JR]at hi;unfold oneL at hx
  cases q with
  | succ q=>simp[encI]at hv
  | zero =>
    simp[encI]at hv;subst hv;simp only[Nat.mul_one,Nat.zero_add,Nat.add_zero];by_cases e:i=j
    ·subst e;rw[List.getElem?_set_self (by simpa using hi)]at hx;cases hx;exact qA (qN (hc i hi))
    ·rw[List.getElem?_set_ne (by omega),List.getElem?_replicate,if_pos hi]at hx;cases hx;exact qj (hc i hi) (.inr (by simpa using e))
theorem Jr(D:DayM)(gr:Int)(hm:0<=gr/\gr<256)(w:World)(hG:Globs w)(h:DayAt w D)(hcap:DayCap D) :
 Calls qo 4 #[dv D,.int .u8 gr] w fun e w'=>e=.returned (.bool true):=by
 have hfit:=fun W (hB:Below w.heap.size w W)=>Fit_any D W (h.keep hB) hcap;have hro:=fun W (hB:Below w.heap.size w W)=>Yb W (hG.keep hB);have hdv:dv D=.agg #[.slice D.ta D.ts.length D.tc,.slice D.ga D.gs.length D.gc,.slice D.oa D.os.length D.oc,.slice D.ha D.hs.length D.hc,.slice D.ca D.cs.length D.cc]:=rfl;have HRO:=qd hro;clear hro;obtain⟨W,hW⟩:∃W,w.alloc (Obj.cells #[.slice D.ta D.ts.length D.tc,.slice D.ga D.gs.length D.gc,.slice D.oa D.os.length D.oc,.slice D.ha D.hs.length D.hc,.slice D.ca D.cs.length D.cc] 28)=W:=⟨_,rfl⟩;have h5:B5 W w.heap.size (.slice D.ta D.ts.length D.tc) (.slice D.ga D.gs.length D.gc) (.slice D.oa D.os.length D.oc) (.slice D.ha D.hs.length D.hc) (.slice D.ca D.cs.length D.cc):=by subst hW;exact B5.new ..
 have hBw:Below w.heap.size w W:=by subst hW;go_grown
 obtain⟨k0,k1,k2,k3,k4⟩:=h5
 cases hf:fitB D with
 | false =>
   rw[hf]at hfit;rw[hdv]at hfit⊢;have HF:=qd hfit;clear hfit hdv hf h hG hcap;go_enter (sf 4 f4),ntmps4;go_upto_region 1 with fail;(try rw[hW]);clear hW;go_wp2_with (first|(go_at_call 18;(with_reducible refine(HF.out _ hBw).mono ?_);rintro e w1 ⟨rfl,hB1⟩;replace hBw:=bcl hBw hB1)|(go_at_call 8;(with_reducible refine(HRO.out _ hBw).mono ?_);rintro e W9 ⟨rfl,hB2⟩));go_ret;rfl
 | true =>
   obtain⟨hs,hz⟩:=fit_out hf hcap;rw[hf]at hfit;have hn4:=(qE D hz).gs;have hpo:=fun V (hB:Below w.heap.size w V)=>Qh D V (h.keep hB) hs hz;have hmo:=fun V (hB:Below w.heap.size w V)=>qcZ D V (h.keep hB) hs (hG.keep hB);have hlo:=fun V (hB:Below w.heap.size w V)=>YK D V (h.keep hB) hs (hG.keep hB)
   have hwo:∀(ws:List WayM) (wa:Option Addr) (wc:Nat) (V:World),ws.length<=wc->ws.map (·.l)=qO D->Below w.heap.size w V->qi V 1 yU wa ws->(∀x∈ws,qi V 1 encI x.a x.l/\x.l.length<=x.c)->∀V2,Below V.heap.size V V2->∀(k s:Nat),k<D.gs.length->qi V2 1 encI (some ⟨s,0,none⟩) (oneL D.gs.length k)->Calls qo 22 #[dv D,.slice wa ws.length wc,.slice (some ⟨s,0,none⟩) D.gs.length D.gs.length] V2 fun e w'=>e=.returned (.int .i64 (zJ D (qw D) (oneP k):Nat))/\Below V2.heap.size V2 w':=fun ws wa wc V hwc hwm hB hwr hww V2 hB2 k s hk hrow=>by
    have hB3:=bcl hB hB2;have hwl:=congrArg List.length hwm;rw[List.length_map,xq D hn4]at hwl;have hpn:=ze hz;have hq:=qdX D V2 (h.keep hB3) hs (hG.keep hB3) hz ws wa wc (by omega) hwc (hwr.keep hB2) ((qdx.of hz hwm hww).keep hB2) (oneL D.gs.length k) (some ⟨s,0,none⟩) D.gs.length (JR _ _) ql hrow (oneL_le _ _);rw[hwm,worstL_N hz (JR _ _),qei hn4 hk]at hq;exact hq
   have hpl:(qO D).length=(qw D).length:=xq D hn4;have hpn:=ze hz;have hA:qZ D 0=if(qw D).length=0 then 10 else 0:=(by unfold qZ;rw[if_neg (by simpa using hz),if_neg (by decide)]);have hms:=fun hne=>qgl (D:=D) hz hne;rw[hdv]at hfit hpo hmo hlo hwo⊢;have HF:=qd hfit;have HPO:=qd hpo;have HMO:=qd hmo;have HLO:=qd hlo;have HWO:=qd hwo;have HD:=qd (qg hpl (qg hpn (qg hA hms)));clear hfit hpo hmo hlo hwo hpl hpn hA hms hdv hf h hG hcap hs hz;go_enter (sf 4 f4),ntmps4;go_upto_region 1 with fail;(try rw[hW]);clear hW;go_upto_region 3 with(go_at_call 18;(with_reducible refine(HF.out _ hBw).mono ?_);rintro e W1 ⟨rfl,hB1⟩;replace k0:=qb _ hB1 k0;replace k1:=qb _ hB1 k1;replace k2:=qb _ hB1 k2;replace k3:=qb _ hB1 k3;replace k4:=qb _ hB1 k4;replace hBw:=bcl hBw hB1;clear hB1);go_upto_region 4 with(go_at_call 19;(with_reducible refine(HPO.out _ hBw).mono ?_);intro e W2 hP;obtain⟨wa,wc,ws,he,hwc,hwm,hwr,hww,hB1⟩:=hP;subst he;replace k0:=qb _ hB1 k0;replace k1:=qb _ hB1 k1;replace k2:=qb _ hB1 k2;replace k3:=qb _ hB1 k3;replace k4:=qb _ hB1 k4;replace hBw:=bcl hBw hB1;clear hB1);have hwl:=congrArg List.length hwm;rw[List.length_map,HD.out.1]at hwl;have hpn:=HD.out.2.1;have HW:=qd (HWO.out ws wa wc W2 hwc hwm hBw hwr hww);clear HWO hwr hww hwm;by_cases hn:ws.length=0
   ·have hA:=HD.out.2.2.1;rw[if_pos (by omega)]at hA
    have hmo:=fun V (hB:Below w.heap.size w V)=>(HMO.out V hB).mono fun e w' hp=>(show Below V.heap.size V w'/\e=.returned (.tuple #[.int .i64 0,.int .i64 0,.int .i64 10])from⟨hp.1,by
     rcases hp.2 with h1|h1
     ·rw[hA]at h1;exact h1.2
     ·rw[hA]at h1;exact absurd h1.1 (by decide)⟩)
    have HM:=qd hmo;have hne:((ws.length:Int)==0)=true:=(by simpa using hn);clear hmo hA HMO HLO HD HW hwl hpn;go_upto_region 5 with(go_at_call 20;(with_reducible refine(HM.out _ hBw).mono ?_);rintro e W3 ⟨hB1,rfl⟩;replace k0:=qb _ hB1 k0;replace k1:=qb _ hB1 k1;replace k2:=qb _ hB1 k2;replace k3:=qb _ hB1 k3;replace k4:=qb _ hB1 k4;replace hBw:=bcl hBw hB1;clear hB1);go_wp2_with (go_at_call 8;(with_reducible refine(HRO.out _ hBw).mono ?_);rintro e W9 ⟨rfl,hB2⟩);go_ret;rfl
   have hA:=HD.out.2.2.1;rw[if_neg (by omega)]at hA;have hne9:qw D≠[]:=fun e=>hn (by rw[hwl,e];rfl);obtain⟨G,M,X,p,f,hfk,hMN,hbv,hsay⟩:=HD.out.2.2.2 hne9
   have hmo:=fun V (hB:Below w.heap.size w V)=>(HMO.out V hB).mono fun e w' hp=>(show Below V.heap.size V w'/\e=.returned (.tuple #[.int .i64 G,.int .i64 M,.int .i64 0])from⟨hp.1,by
    rcases hp.2 with h1|h1
    ·rw[hA]at h1;exact absurd rfl h1.1
    ·rw[hMN]at h1;exact h1.2⟩)
   have hlo:=fun V (hB:Below w.heap.size w V)=>(HLO.out V hB).mono fun e w' hp=>(show Below V.heap.size V w'/\e=.returned (.tuple #[.agg #[.int .i64 p,.int .i64 X],.int .i64 0])from⟨hp.1,by
    rcases hp.2 with h1|h1
    ·rw[hA]at h1;exact absurd rfl h1.1
    ·rw[hbv]at h1;exact h1.2⟩)
   have hwo:∀V2,Below W2.heap.size W2 V2->∀(k s:Nat),k<D.gs.length->qi V2 1 encI (some ⟨s,0,none⟩) (oneL D.gs.length k)->Calls qo 22 #[.agg #[.slice D.ta D.ts.length D.tc,.slice D.ga D.gs.length D.gc,.slice D.oa D.os.length D.oc,.slice D.ha D.hs.length D.hc,.slice D.ca D.cs.length D.cc],.slice wa ws.length wc,.slice (some ⟨s,0,none⟩) D.gs.length D.gs.length] V2 fun e w'=>e=.returned (.int .i64 (f k))/\Below V2.heap.size V2 w':=fun V2 hB k s hk hr=>by
    rw[hfk k];exact HW.out V2 hB k s hk hr
   have HM:=qd hmo;have HL:=qd hlo;have HWO:=qd hwo;have hne:((ws.length:Int)==0)=false:=beq_eq_false_iff_ne.2 (by omega);clear hmo hlo hwo hA HMO HLO HD HW hwl hpn hfk hMN hbv hne9;go_upto_region 5 with(go_at_call 20;(with_reducible refine(HM.out _ hBw).mono ?_);rintro e W3 ⟨hB1,rfl⟩;have hB9:=hB1;replace k0:=qb _ hB1 k0;replace k1:=qb _ hB1 k1;replace k2:=qb _ hB1 k2;replace k3:=qb _ hB1 k3;replace k4:=qb _ hB1 k4;replace hBw:=bcl hBw hB1;clear hB1);go_upto_region 7 with fail;go_upto_region 8 with(go_at_call 16;(with_reducible refine(HL.out _ hBw).mono ?_);rintro e W4 ⟨hB1,rfl⟩;replace hB9:=bcl hB9 hB1;replace k0:=qb _ hB1 k0;replace k1:=qb _ hB1 k1;replace k2:=qb _ hB1 k2;replace k3:=qb _ hB1 k3;replace k4:=qb _ hB1 k4;replace hBw:=bcl hBw hB1;clear hB1);have hwx:w.heap.size<W4.heap.size:=lt_of_cell k0;obtain⟨Y4,hY⟩:∃Y4,W4.alloc (Obj.cells #[.int .i64 p,.int .i64 X] 40)=Y4:=⟨_,rfl⟩;rw[hY];have hB1:Below W4.heap.size W4 Y4:=(by subst hY;go_grown);have x1:Y4.cell? ⟨W4.heap.size,1,none⟩=some (.int .i64 X):=(by subst hY;go_cell);clear hY;replace hB9:=bcl hB9 hB1;replace k0:=qb _ hB1 k0;replace k1:=qb _ hB1 k1;replace k2:=qb _ hB1 k2;replace k3:=qb _ hB1 k3;replace k4:=qb _ hB1 k4;replace hBw:=bcl hBw hB1;clear hB1;have hwn:wrap64 ((D.gs.length:Int)-1)=(D.gs.length:Int)-1:=wrap_small (by omega) (by omega)
   have hin:∀V,Calls qo 21 #[.int .i64 G,.int .i64 (-1),.int .i64 ((D.gs.length:Int)-1)] V fun e w'=>e=.returned (.bool true)/\V=w':=fun V=>by
    have h0:=Ze G (-1) ((D.gs.length:Int)-1) V;rw[show btw G (-1) ((D.gs.length:Int)-1)=true from zF.2 (by rcases hsay with⟨h1,_⟩|⟨j,h1,h2,_⟩<;>omega)]at h0;exact h0
   have HIN:=qd hin;have HWN:=qd hwn;clear hin hwn HM HL HF HPO;rcases hsay with⟨rfl,rfl,hall⟩|⟨j,rfl,hj,hMX,hfj,hall⟩
   ·have hMX:(M != M)=false:=(by simp);have hwn:=HWN.out;go_upto_region 10 with(go_at_call 21;(with_reducible refine(HIN.out _).mono ?_);rintro e V9 ⟨rfl,rfl⟩);clear hwn;by_cases hg0:D.gs.length=0
    ·have hge:((D.gs.length:Int)==0)=true:=(by simpa using hg0);go_wp2_with (go_at_call 8;(with_reducible refine(HRO.out _ hBw).mono ?_);rintro e W9 ⟨rfl,hB2⟩);go_ret;rfl
    have hge:((D.gs.length:Int)==0)=false:=beq_eq_false_iff_ne.2 (by omega);go_upto_region 12 with fail;go_upto_region 17 with fail;obtain⟨k,hk⟩:∃k:Nat,(k:Int)=gr%(D.gs.length:Int):=⟨(gr%(D.gs.length:Int)).toNat,by rw[Int.toNat_of_nonneg (Int.emod_nonneg _ (by omega))]⟩;have hkn:k<D.gs.length:=(by have:=Int.emod_lt_of_pos gr (show(0:Int)<(D.gs.length:Int) by omega);omega);have hwm:IntKind.i64.wrap gr=gr:=(by rw[IntKind.wrap_i64];omega);have htm:Int.tmod gr (D.gs.length:Int)=(k:Int):=(by rw[qhc hm.1,hk]);have hne0:¬(D.gs.length:Int)=0:=(by omega);clear hk;go_upto_region 18 with fail;clear hwm htm;have hmk:=YL (w:=Y4) (n:=D.gs.length) (by omega);obtain⟨Z,hZ⟩:∃Z,Y4.alloc (.cells (madeCells #[.int .i64 0] D.gs.length) 3)=Z:=⟨_,rfl⟩;rw[hZ]at hmk;obtain⟨z0,z1,z2,hB1,hrow⟩:=JS Y4 (n:=D.gs.length) (j:=k) (by omega) Z hZ;have hz9:Y4.heap.size<Z.heap.size:=(by omega);clear hZ;go_upto_region 19 with fail;go_upto_region 20 with fail;clear hmk z0 z1 z2;obtain⟨Z2,hZ2⟩:∃Z2,Z.setCell ⟨Y4.heap.size,k,none⟩ (.int .i64 1)=Z2:=⟨_,rfl⟩;rw[hZ2]at hB1 hrow⊢;clear hZ2 hz9;replace hB9:=bcl hB9 hB1;replace k0:=qb _ hB1 k0;replace k1:=qb _ hB1 k1;replace k2:=qb _ hB1 k2;replace k3:=qb _ hB1 k3;replace k4:=qb _ hB1 k4;replace hBw:=bcl hBw hB1;clear hB1;have HC:=qd (HWO.out _ hB9 k _ (by omega) hrow);clear hrow;go_upto_region 21 with(go_at_call 22;(with_reducible refine HC.out.mono ?_);rintro e W7 ⟨rfl,hB1⟩;replace k0:=qb _ hB1 k0;replace k1:=qb _ hB1 k1;replace k2:=qb _ hB1 k2;replace k3:=qb _ hB1 k3;replace k4:=qb _ hB1 k4;replace hBw:=bcl hBw hB1;clear hB1)
    clear HC k0 k1 k2 k3 k4;have hal:=hall k hkn;by_cases hgt:M<f k
    ·go_wp2_with (go_at_call 8;(with_reducible refine(HRO.out _ hBw).mono ?_);rintro e W9 ⟨rfl,hB2⟩);go_ret;rfl
    ·have heq:f k=M:=(by omega);have hqe:(f k==M)=true:=(by simpa using heq);go_wp2_with (go_at_call 8;(with_reducible refine(HRO.out _ hBw).mono ?_);rintro e W9 ⟨rfl,hB2⟩);go_ret;rfl
   ·have hjm:¬X<=M:=(by omega);have hj0:(0:Int)<=(j:Int):=(by omega);have hj1:¬(j:Int)<0:=(by omega);have hwn:=HWN.out;go_upto_region 10 with(go_at_call 21;(with_reducible refine(HIN.out _).mono ?_);rintro e V9 ⟨rfl,rfl⟩);clear hwn;have hge:((D.gs.length:Int)==0)=false:=beq_eq_false_iff_ne.2 (by omega);go_upto_region 13 with fail;have hmk:=YL (w:=Y4) (n:=D.gs.length) (by omega);obtain⟨Z,hZ⟩:∃Z,Y4.alloc (.cells (madeCells #[.int .i64 0] D.gs.length) 3)=Z:=⟨_,rfl⟩;rw[hZ]at hmk;obtain⟨z0,z1,z2,hB1,hrow⟩:=JS Y4 (n:=D.gs.length) (j:=j) (by omega) Z hZ;have hz9:Y4.heap.size<Z.heap.size:=(by omega);clear hZ;go_upto_region 14 with fail;go_upto_region 15 with fail;clear hmk z0 z1 z2;obtain⟨Z2,hZ2⟩:∃Z2,Z.setCell ⟨Y4.heap.size,j,none⟩ (.int .i64 1)=Z2:=⟨_,rfl⟩;rw[hZ2]at hB1 hrow⊢;clear hZ2 hz9;replace hB9:=bcl hB9 hB1;replace k0:=qb _ hB1 k0;replace k1:=qb _ hB1 k1;replace k2:=qb _ hB1 k2;replace k3:=qb _ hB1 k3;replace k4:=qb _ hB1 k4;replace hBw:=bcl hBw hB1;clear hB1;have HC:=qd (HWO.out _ hB9 j _ (by omega) hrow);clear hrow;have hfm:(f j != M)=false:=(by simpa using hfj);go_upto_region 17 with(go_at_call 22;(with_reducible refine HC.out.mono ?_);rintro e W6 ⟨rfl,hB1⟩;replace hB9:=bcl hB9 hB1;replace k0:=qb _ hB1 k0;replace k1:=qb _ hB1 k1;replace k2:=qb _ hB1 k2;replace k3:=qb _ hB1 k3;replace k4:=qb _ hB1 k4;replace hBw:=bcl hBw hB1;clear hB1);clear HC hfm;obtain⟨k,hk⟩:∃k:Nat,(k:Int)=gr%(D.gs.length:Int):=⟨(gr%(D.gs.length:Int)).toNat,by rw[Int.toNat_of_nonneg (Int.emod_nonneg _ (by omega))]⟩
    have hkn:k<D.gs.length:=(by have:=Int.emod_lt_of_pos gr (show(0:Int)<(D.gs.length:Int) by omega);omega);have hwm:IntKind.i64.wrap gr=gr:=(by rw[IntKind.wrap_i64];omega);have htm:Int.tmod gr (D.gs.length:Int)=(k:Int):=(by rw[qhc hm.1,hk]);have hne0:¬(D.gs.length:Int)=0:=(by omega);clear hk;go_upto_region 18 with fail;clear hwm htm;have hmk:=YL (w:=W6) (n:=D.gs.length) (by omega);obtain⟨Z,hZ⟩:∃Z,W6.alloc (.cells (madeCells #[.int .i64 0] D.gs.length) 3)=Z:=⟨_,rfl⟩;rw[hZ]at hmk;obtain⟨z0,z1,z2,hB1,hrow⟩:=JS W6 (n:=D.gs.length) (j:=k) (by omega) Z hZ;have hz9:W6.heap.size<Z.heap.size:=(by omega);clear hZ;go_upto_region 19 with fail;go_upto_region 20 with fail;clear hmk z0 z1 z2;obtain⟨Z2,hZ2⟩:∃Z2,Z.setCell ⟨W6.heap.size,k,none⟩ (.int .i64 1)=Z2:=⟨_,rfl⟩;rw[hZ2]at hB1 hrow⊢;clear hZ2 hz9;replace hB9:=bcl hB9 hB1;replace k0:=qb _ hB1 k0;replace k1:=qb _ hB1 k1;replace k2:=qb _ hB1 k2;replace k3:=qb _ hB1 k3;replace k4:=qb _ hB1 k4;replace hBw:=bcl hBw hB1;clear hB1;have HC:=qd (HWO.out _ hB9 k _ (by omega) hrow);clear hrow;go_upto_region 21 with(go_at_call 22;(with_reducible refine HC.out.mono ?_);rintro e W7 ⟨rfl,hB1⟩;replace k0:=qb _ hB1 k0;replace k1:=qb _ hB1 k1;replace k2:=qb _ hB1 k2;replace k3:=qb _ hB1 k3;replace k4:=qb _ hB1 k4;replace hBw:=bcl hBw hB1;clear hB1);clear HC k0 k1 k2 k3 k4;have hal:=hall k hkn;by_cases hgt:M<f k
    ·go_wp2_with (go_at_call 8;(with_reducible refine(HRO.out _ hBw).mono ?_);rintro e W9 ⟨rfl,hB2⟩);go_ret;rfl
    ·have heq:f k=M:=(by omega);have hqe:(f k==M)=true:=(by simpa using heq);have hjk:=hal.2 heq;have hjk2:(j:Int)<=(k:Int):=(by omega);have hj0:¬(j:Int)<0:=(by omega);clear hal;go_wp2_with (go_at_call 8;(with_reducible refine(HRO.out _ hBw).mono ?_);rintro e W9 ⟨rfl,hB2⟩);go_ret;rfl
end Go.Proofs.Tryz
