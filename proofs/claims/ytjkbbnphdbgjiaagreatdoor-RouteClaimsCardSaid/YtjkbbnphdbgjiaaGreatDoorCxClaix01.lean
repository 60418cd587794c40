/-
  Lemmas about the program and the machine (D22 to D30), upon which the last text of this claim rests; no condition.
-/
import Derived.Test.YtjkbbnphdbgjiaaGreatDoorCxClaixMorex01
import Derived.Test.YtjkbbnphdbgjiaaGreatDoorCz21
set_option linter.unusedSimpArgs false
set_option linter.unusedVariables false
set_option maxRecDepth 100000
set_option maxHeartbeats 4000000
namespace Go.Proofs.Tryz
open Go Go.Load Go.LoadR Go.RowKit
theorem dvE(D:DayM):dv D=.agg #[.slice D.ta D.ts.length D.tc,.slice D.ga D.gs.length D.gc,.slice D.oa D.os.length D.oc,.slice D.ha D.hs.length D.hc,.slice D.ca D.cs.length D.cc]:=rfl
def anyB(D:DayM)(k:Nat)(LS:List (List Int))(n:Int):Bool:=LS.any fun u=>(qD D (setOf (qy u))).getD k 0==n
def jE(D:DayM)(k:Nat)(j:Nat):List Int:=((List.range j).map fun(i:Nat)=>(i:Int)-1).filter (anyB D k (qO D))
theorem qch(D:DayM)(k j:Nat):jE D k (j+1)=jE D k j++if anyB D k (qO D) ((j:Int)-1)=true then[(j:Int)-1]else[]:=by
 unfold jE;rw[List.range_succ,List.map_append,List.filter_append];congr 1;simp only[List.map_cons,List.map_nil,List.filter_cons,List.filter_nil]
theorem qet(D:DayM)(k j:Nat):(jE D k j).length<=j:=by
 have:=List.length_filter_le (anyB D k (qO D)) ((List.range j).map fun(i:Nat)=>(i:Int)-1);rw[List.length_map,List.length_range]at this;exact this
def RGoesP(D:DayM)(call:Int)(w:World)(e:Ending)(w':World):Prop :=
 Below w.heap.size w w'/\((qZ D (qF call D.cs.length)≠0/\e=.returned (.tuple #[.slice none 0 0,.int .i64 (qZ D (qF call D.cs.length))])) \/
 (qZ D (qF call D.cs.length)=0/\∃a c,e=.returned (.tuple #[.slice a (jE D call.toNat 4).length c,.int .i64 0])/\(jE D call.toNat 4).length<=c/\qi w' 1 encI a (jE D call.toNat 4)))
theorem qgE(D:DayM)(call:Int)(w:World)(h:DayAt w D)(hs:DaySm D):Calls qo 10 #[dv D,.int .i64 call] w (RGoesP D call w):=by
 have hdv:=dvE D;have hth:=fun W=>xL call D.cs.length (by omega) (by have:=hs.cs.1;omega) W;have hix:(if btw call 0 ((D.cs.length:Int)-1)=true then(0:Int)else 6)=qF call D.cs.length:=rfl;have hask:=fun W (hB:Below w.heap.size w W)=>jD D (btw call 0 ((D.cs.length:Int)-1)) 6 W (h.keep hB) hs (fun _=>by decide);rw[hix]at hask;have hbt:=@zF call 0 ((D.cs.length:Int)-1);unfold RGoesP;have hask2:=fun W (hB:Below w.heap.size w W)=>(hask W hB);unfold qai at hask2
 have hin:qZ D (qF call D.cs.length)=0->checkN D=0/\btw call 0 ((D.cs.length:Int)-1)=true:=fun e=>by
  unfold qZ at e;by_cases h1:checkN D=0
  ·rw[if_neg (by simpa using h1)]at e;refine⟨h1,?_⟩;by_cases h2:btw call 0 ((D.cs.length:Int)-1)=true
   ·exact h2
   ·unfold qF at e;rw[if_neg h2]at e;simp at e
  ·rw[if_pos h1]at e;exact absurd e h1
 obtain⟨A,hA⟩:∃A,qZ D (qF call D.cs.length)=A:=⟨_,rfl⟩;rw[hA]at hask2 hin⊢;rw[hdv]at hask2⊢
 generalize btw call 0 ((D.cs.length:Int)-1)=B at *
 have HD:=qd (qg h (qg hs (qg hdv (qg hin hbt))));have HTH:=qd hth;have HAS:=qd hask2;clear h hs hdv hth hix hask hask2 hA hin hbt;obtain⟨W,hW⟩:∃W,w.alloc (Obj.cells #[.slice D.ta D.ts.length D.tc,.slice D.ga D.gs.length D.gc,.slice D.oa D.os.length D.oc,.slice D.ha D.hs.length D.hc,.slice D.ca D.cs.length D.cc] 28)=W:=⟨_,rfl⟩;have h5:B5 W w.heap.size (.slice D.ta D.ts.length D.tc) (.slice D.ga D.gs.length D.gc) (.slice D.oa D.os.length D.oc) (.slice D.ha D.hs.length D.hc) (.slice D.ca D.cs.length D.cc):=by subst hW;exact B5.new ..
 have hBW:Below w.heap.size w W:=by subst hW;go_grown
 have H5:=qd h5;obtain⟨k0,k1,k2,k3,k4⟩:=h5;by_cases hA0:A=0;rotate_left 1
 ·have has:=fun V (hB:Below w.heap.size w V)=>(HAS.out V hB).mono fun e w' hp=>(show Below V.heap.size V w'/\e=.returned (.tuple #[.slice none 0 0,.int .i64 A])from⟨hp.1,hp.2.elim (fun h=>h.2) (fun h=>absurd h.1 hA0)⟩);have HAB:=qd has;have hne:(A != 0)=true:=by simpa using hA0
  clear has HAS;go_enter (sf 10 f10),ntmps10;go_upto_region 1 with fail;try rw[hW]
  clear hW;refine wp_region_held_drew (S:=(RHL [(⟨w.heap.size,0,none⟩,.slice D.ta D.ts.length D.tc),(⟨w.heap.size,1,none⟩,.slice D.ga D.gs.length D.gc),(⟨w.heap.size,2,none⟩,.slice D.oa D.os.length D.oc),(⟨w.heap.size,3,none⟩,.slice D.ha D.hs.length D.hc),(⟨w.heap.size,4,none⟩,.slice D.ca D.cs.length D.cc)] W)) (by kernel_rfl) (by exact RHL.drew ⟨k0,k1,k2,k3,k4,Below.refl _ _⟩) (fun hHeld=>?_);refine tk 0 ?_;refine tk 1 ?_;refine tk 2 ?_;refine tk 3 ?_;(refine tk 4 ?_;try simp only[zs,Act.put]);refine tkR 5 fun K hK=>?_;go_simp;go_wp2_with (go_at_call 50;(with_reducible refine(HTH.out _).mono ?_);rintro e V1 ⟨rfl,rfl⟩);refine hK.out _ _ (by exact hHeld) (fun hHeldN=>?_);clear hK K hHeld;have hHeld:=hHeldN;clear hHeldN;try simp only[zs,Act.put]
  refine tkR 6 fun K hK=>?_;go_simp;go_wp2_with (go_at_call 49;(with_reducible refine(HAB.out _ (bcl hBW (RHL.bel hHeld))).mono ?_);rintro e X ⟨hB5,rfl⟩);refine hK.out _ _ (by exact RHL.call hHeld hB5) (fun hHeldN=>?_);clear hK K hHeld;have hHeld:=hHeldN;clear hHeldN;try simp only[zs,Act.put]
  refine tk 7 ?_;refine tk 8 ?_;refine tk 9 ?_;refine tk 10 ?_;(refine tk 11 ?_;try simp only[zs,Act.put]);refine wpAnyH_done (by kernel_rfl) ?_ _;try simp only[zs,Act.put]
  have hB4:=bcl hBW (RHL.bel hHeld);clear hHeld;go_wp2
  go_ret2
  exact⟨hB4,.inl ⟨hA0,rfl⟩⟩
 ·subst hA0;have has:=fun V (hB:Below w.heap.size w V)=>(HAS.out V hB).mono fun e w' hp=>(show Below V.heap.size V w'/\∃a c ws,e=.returned (.tuple #[.slice a ws.length c,.int .i64 0])/\0<ws.length/\ws.length<=c/\ws.map (·.l)=qO D/\qi w' 1 yU a ws/\∀x∈ws,qi w' 1 encI x.a x.l/\x.l.length<=x.c from⟨hp.1,hp.2.elim (fun h=>absurd rfl h.1) (fun h=>h.2)⟩);have HAB:=qd has;clear has HAS;go_enter (sf 10 f10),ntmps10;go_upto_region 1 with fail;try rw[hW]
  clear hW;refine wp_region_held_drew (S:=(RHL [(⟨w.heap.size,0,none⟩,.slice D.ta D.ts.length D.tc),(⟨w.heap.size,1,none⟩,.slice D.ga D.gs.length D.gc),(⟨w.heap.size,2,none⟩,.slice D.oa D.os.length D.oc),(⟨w.heap.size,3,none⟩,.slice D.ha D.hs.length D.hc),(⟨w.heap.size,4,none⟩,.slice D.ca D.cs.length D.cc)] W)) (by kernel_rfl) (by exact RHL.drew ⟨k0,k1,k2,k3,k4,Below.refl _ _⟩) (fun hHeld=>?_);refine tk 0 ?_;refine tk 1 ?_;refine tk 2 ?_;refine tk 3 ?_;(refine tk 4 ?_;try simp only[zs,Act.put]);refine tkR 5 fun K hK=>?_;go_simp;go_wp2_with (go_at_call 50;(with_reducible refine(HTH.out _).mono ?_);rintro e V1 ⟨rfl,rfl⟩);refine hK.out _ _ (by exact hHeld) (fun hHeldN=>?_);clear hK K hHeld;have hHeld:=hHeldN;clear hHeldN;try simp only[zs,Act.put]
  refine tkR 6 fun K hK=>?_;go_simp;go_wp2_with (go_at_call 49;(with_reducible refine(HAB.out _ (bcl hBW (RHL.bel hHeld))).mono ?_);intro e X hP;obtain⟨hB5,a,c,ws,he,hw0,hwc,hwm,hwr,hww⟩:=hP;subst he);refine hK.out _ _ (by exact RHL.call hHeld hB5) (fun hHeldN=>?_);clear hK K hHeld;have hHeld:=hHeldN;clear hHeldN;try simp only[zs,Act.put]
  refine tk 7 ?_;refine tk 8 ?_;refine tk 9 ?_;refine tk 10 ?_;(refine tk 11 ?_;try simp only[zs,Act.put]);refine wpAnyH_done (by kernel_rfl) ?_ _;try simp only[zs,Act.put]
  have hB4:=RHL.bel hHeld;have hBX:=bcl hBW hB4;have HKX:=qd hHeld;obtain⟨hz,hB⟩:=HD.out.2.2.2.1 (by first|rfl|trivial);have hk9:=HD.out.2.2.2.2.1 hB;obtain⟨k,rfl⟩:∃k:Nat,call=k:=⟨call.toNat,by omega⟩;have hkl:k<D.cs.length:=by omega
  have hok:=qdx.of hz hwm hww;have hwl:=congrArg List.length hwm;rw[List.length_map,xq D (qE D hz).gs]at hwl
  have hany:∀n,anyB D k (qO D) n=ws.any fun x=>qag D k x==n:=fun n=>by
   unfold anyB qag;rw[<-hwm,List.any_map];rfl
  have hpn:ws.length<=81:=by
   have h9:=yO D.gs [] (fun g hg=>by have:=yD D hz g hg;omega);have h8:=List.length_filter_le (fun t:List Int=>yG (qD D (setOf (qy t))) D.cs) (zO D.gs []);have h7:3 ^ D.gs.length<=81:=Nat.pow_le_pow_right (n:=3) (by decide) (qE D hz).gs;have h6:=congrArg List.length hwm;rw[List.length_map]at h6;have h5:(qO D).length<=(zO D.gs []).length:=h8;omega
  have hpo:=fun(x:WayM) (hx:x∈ws) V (hB:Below X.heap.size X V)=>xx D x.l x.a x.c V (HD.out.1.keep (bcl hBX hB)) HD.out.2.1 hz (hok x hx).2.2.1 (hok x hx).2.1 ((hok x hx).1.keep hB) (fun y hy=>by have:=(hok x hx).2.2.2 y hy;omega);simp only[HD.out.2.2.1]at hpo;have HPO:=qd hpo;have HDA:=qd fun x=>did_at hkl x;have HX:=qd (qg hwr (qg hany hBX));obtain⟨i0,hi,hiz,his,hib⟩:=info_parts yX;have hU:qo.underlying 31=some (.slice 3):=(qH _).trans Tryz.underlying31;have hk0:(0:Int)<=(k:Int):=Int.natCast_nonneg k;clear hHeld hB4 hwr hww hwm hwl hok hpo hany hBX hz hB hk9 H5 HTH HAB hw0;go_wp2;go_loopw [9,8] (fun i u wr=>∃(j:Nat) (v:Value),i=.int .i64 ((j:Int)-1)/\v=u/\j<=4/\Hid (Below X.heap.size X wr)/\Hid (wr.ownsRow X.heap.size 3 1 v (jE D k j).length ((jE D k j).map (.int .i64)))) (fun i _ _=>(3-intOf i).toNat);case atStart=>exact⟨0,_,rfl,rfl,by omega,qd (Below.refl _ _),qd (World.ownsRow_nil _ _ _ _)⟩
  case round =>
   obtain⟨j,v,rfl,rfl,hj,HB,HO⟩:=hrel;obtain⟨U,hU9⟩:∃U,U=wr:=⟨_,rfl⟩;subst hU9;by_cases hlt:(j:Int)-1<3
   ·have hsu:=qch D k j;rw[HX.out.2.1]at hsu;have hrl:=qet D k j;have HSU:=qd hsu;obtain⟨n,hn⟩:∃n,(j:Int)-1=n:=⟨_,rfl⟩;rw[hn]at HSU⊢;have HN:=qd hn;have hn1:n<3:=(by omega);have hn2:-1<=n:=(by omega);clear hsu hn hlt;go_wp2;go_loopw [11,10] (fun i u wr=>∃(m:Nat),i=.int .i64 m/\u=.bool ((ws.take m).any fun x=>qag D k x==n)/\m<=ws.length/\Hid (Below U.heap.size U wr)) (fun i _ _=>ws.length-(intOf i).toNat);case atStart=>exact⟨0,rfl,by simp,by omega,qd (Below.refl _ _)⟩
    case round =>
     obtain⟨m,rfl,rfl,hm,HI⟩:=hrel;have hBi:=bcl HB.out HI.out;by_cases hlt2:m<ws.length
     ·obtain⟨x,hx⟩:∃x,ws[m]? = some x:=⟨_,qG hlt2⟩;obtain⟨b,o,rfl,hP⟩:=HX.out.1 (by omega);have c0:=qb _ hBi (hP m x hx 0 _ rfl);simp only[Nat.mul_one,Nat.add_zero]at c0;obtain⟨k0,k1,k2,k3,k4,-⟩:=RHL.call HKX.out hBi;have hm1:(m:Int)<(ws.length:Int):=(by omega);have hm2:(m:Int)<=(c:Int):=(by omega);have HC:=qd (HPO.out x (qI hx));have HXM:=qd hx;have HDN:=qd (HDA.out x);obtain⟨B2,hB2⟩:∃B2,((ws.take m).any fun x=>qag D k x==n)=B2:=⟨_,rfl⟩;have HB2:=qd hB2;rw[hB2];clear hP hx hB2;go_upto_region 12 with fail
      cases B2 with
      | true =>
        refine wp_region_held_drew (S:=(RHL [] wr)) (by kernel_rfl) (by exact RHL.drew (Below.refl _ _)) (fun hHeld=>?_);refine tk 0 ?_;refine tk 1 ?_;refine tkS 2 ?_;refine tkS 3 ?_;refine tkS 4 ?_;refine tkS 5 ?_;refine tkS 6 ?_;refine tkS 7 ?_;refine tkS 8 ?_;refine tkS 9 ?_;refine tkS 10 ?_;refine tkS 11 ?_;refine tkS 12 ?_;refine tk 13 ?_;(refine tk 14 ?_;try simp only[zs,Act.put]);refine wpAnyH_done (by kernel_rfl) ?_ _;(try simp only[zs,Act.put]);have hBj:=bcl HI.out (RHL.bel hHeld);clear hHeld k0 k1 k2 k3 k4 c0 hBi;go_wp2;go_roundw
        case rel =>
         refine⟨m+1,rfl,?_,by omega,qd hBj⟩;obtain⟨h9,rfl⟩:=qC HXM.out;rw[List.take_succ_eq_append_getElem h9,List.any_append,HB2.out];rfl
        case measure=>simp[intOf];omega
      | false =>
        refine wp_region_held_drew (S:=(RHL [(⟨w.heap.size,0,none⟩,.slice D.ta D.ts.length D.tc),(⟨w.heap.size,1,none⟩,.slice D.ga D.gs.length D.gc),(⟨w.heap.size,2,none⟩,.slice D.oa D.os.length D.oc),(⟨w.heap.size,3,none⟩,.slice D.ha D.hs.length D.hc),(⟨w.heap.size,4,none⟩,.slice D.ca D.cs.length D.cc),(⟨b,o+m,none⟩,.slice x.a x.l.length x.c)] wr)) (by kernel_rfl) (by exact RHL.drew ⟨k0,k1,k2,k3,k4,c0,Below.refl _ _⟩) (fun hHeld=>?_);refine tk 0 ?_;refine tk 1 ?_;refine tk 2 ?_;refine tk 3 ?_;refine tk 4 ?_;refine tk 5 ?_;refine tk 6 ?_;refine tk 8 ?_;(refine tk 11 ?_;try simp only[zs,Act.put]);refine tkR 7 fun K hK=>?_;go_simp;go_wp2_with (go_at_call 51;(with_reducible refine(HC.out _ (bcl hBi (RHL.bel hHeld))).mono ?_);intro e X5 hP;obtain⟨⟨pa,pc,he,hpc,hpr⟩,hB5⟩:=hP;subst he);refine hK.out _ _ (by exact RHL.call hHeld hB5) (fun hHeldN=>?_);clear hK K hHeld;have hHeld:=hHeldN;clear hHeldN;(try simp only[zs,Act.put]);obtain⟨pb,po,rfl,hQ⟩:=hpr (by have:=(qC HDN.out).1;omega);have q0:=hQ k _ HDN.out 0 _ rfl;simp only[Nat.mul_one,Nat.add_zero]at q0;have hkp:(k:Int)<=(pc:Int):=(by omega);have hkq:(k:Int)<(D.cs.length:Int):=(by omega);clear hQ;(refine tk 9 ?_;try simp only[zs,Act.put]);(refine tkR 10 fun K hK=>?_;go_simp;refine hK.out _ _ (by exact hHeld) (fun hHeldN=>?_);clear hK K hHeld;have hHeld:=hHeldN;clear hHeldN;try simp only[zs,Act.put]);refine tk 12 ?_;refine tk 13 ?_;(refine tk 14 ?_;try simp only[zs,Act.put]);refine wpAnyH_done (by kernel_rfl) ?_ _;(try simp only[zs,Act.put]);have hBj:=bcl HI.out (RHL.bel hHeld)
        clear hHeld k0 k1 k2 k3 k4 c0 hBi q0 hB5 HC;go_wp2;go_roundw;(case rel=>exact⟨m+1,rfl,by rw[any_take_succ _ HXM.out HB2.out],by omega,qd hBj⟩);case measure=>simp[intOf];omega
     ·obtain rfl:m=ws.length:=(by omega);have HO7:=qd (zf HO.out HI.out);have HB7:=qd hBi;rw[List.take_length];have hsu:=HSU.out;have hnn:=HN.out;obtain⟨B2,hB2⟩:∃B2,(ws.any fun x=>qag D k x==n)=B2:=⟨_,rfl⟩;rw[hB2]at hsu⊢;have HSV:=qd hsu;have HNN:=qd hnn;clear hsu hB2 HSU HO HB HI hBi hm hlt2 hnn
      cases B2 with
      | false =>
        have hwn:wrap64 (n+1)=n+1:=wrap_small (by omega) (by omega);go_wp2;go_roundw;(case rel=>exact⟨j+1,v,congrArg (Value.int .i64) (by have:=HNN.out;clear hwn;omega),rfl,by have:=HNN.out;clear hwn;omega,HB7,qd (by rw[HSV.out];simpa using HO7.out)⟩);case measure=>simp[intOf];clear hwn;omega
      | true =>
        have hwn:wrap64 (n+1)=n+1:=wrap_small (by omega) (by omega);have HWN:=qd hwn;clear hwn;go_upto_region 7 with(at_builtin;refine wpList_append_own_at _ rfl (.tmp 50) (.tmp 52) 31 rfl X.heap.size 3 i0 (.int .i64 0) 1 8 hU hi hiz his hib rfl (by decide) _ _ _ rfl (HO7.out.alloc _) ⟨wr.heap.size,0,none⟩ 1 1 [.int .i64 n] rfl rfl (cell_one_new _ _ _) (jf n) (by unfold maxLen;omega) (by omega) (by have h9:X.heap.size<=wr.heap.size:=HB7.out.size;simp;omega) ?_;intro v1 w3 n1 y1 nil1 at1);have y2:(wr.alloc (.cells #[.int .i64 n] 3)).grownBy w3 v.ownBlock:=y1;have hB3:=HB7.out.trans (((Mod.below ((Below.refl _ wr).alloc ql _)).trans (Mod.grown (S:=fun b=>v.ownBlock=some b) y2 (fun b e=>e))).keep HB7.out.size (fun b hb=>(HO7.out.lt b hb).1));have hwn:=HWN.out;go_wp2;go_roundw
        case rel =>
         clear hwn;refine⟨j+1,v1,congrArg (Value.int .i64) (by have:=HNN.out;omega),rfl,by have:=HNN.out;omega,qd hB3,qd ?_⟩;rw[HSV.out,if_pos rfl,List.length_append,List.map_append];exact n1
        case measure=>clear hwn;simp[intOf];omega
   ·obtain rfl:j=4:=(by omega);obtain⟨ra,rc,hv,hrc,hrr⟩:=zt HO.out;subst hv;have HV:=qd (qg hrc (qg hrr (bcl HX.out.2.2 HB.out)));clear hrc hrr;go_wp2
    go_ret2
    exact⟨HV.out.2.2,ra,rc,rfl,HV.out.1,HV.out.2.1⟩
def qbc(D:DayM)(k:Nat):Int:=if((qO D).countP fun u=>(qD D (setOf (qy u))).getD k 0 == -1)=0 then 2 else if((qO D).countP fun u=>(qD D (setOf (qy u))).getD k 0 == -1)=(qO D).length then 1 else 0
def RRefP(D:DayM)(call:Int)(w:World)(e:Ending)(w':World):Prop :=
 Below w.heap.size w w'/\((qZ D (qF call D.cs.length)≠0/\e=.returned (.tuple #[.int .i64 0,.int .i64 (qZ D (qF call D.cs.length))])) \/
 (qZ D (qF call D.cs.length)=0/\e=.returned (.tuple #[.int .i64 (qbc D call.toNat),.int .i64 0])))
theorem qba(D:DayM)(call:Int)(w:World)(h:DayAt w D)(hs:DaySm D):Calls qo 13 #[dv D,.int .i64 call] w (RRefP D call w):=by
 have hdv:=dvE D;have hth:=fun W=>xL call D.cs.length (by omega) (by have:=hs.cs.1;omega) W;have hix:(if btw call 0 ((D.cs.length:Int)-1)=true then(0:Int)else 6)=qF call D.cs.length:=rfl;have hask:=fun W (hB:Below w.heap.size w W)=>jD D (btw call 0 ((D.cs.length:Int)-1)) 6 W (h.keep hB) hs (fun _=>by decide);rw[hix]at hask;have hbt:=@zF call 0 ((D.cs.length:Int)-1);unfold RRefP;have hask2:=fun W (hB:Below w.heap.size w W)=>(hask W hB);unfold qai at hask2
 have hin:qZ D (qF call D.cs.length)=0->checkN D=0/\btw call 0 ((D.cs.length:Int)-1)=true:=fun e=>by
  unfold qZ at e;by_cases h1:checkN D=0
  ·rw[if_neg (by simpa using h1)]at e;refine⟨h1,?_⟩;by_cases h2:btw call 0 ((D.cs.length:Int)-1)=true
   ·exact h2
   ·unfold qF at e;rw[if_neg h2]at e;simp at e
  ·rw[if_pos h1]at e;exact absurd e h1
 obtain⟨A,hA⟩:∃A,qZ D (qF call D.cs.length)=A:=⟨_,rfl⟩;rw[hA]at hask2 hin⊢;rw[hdv]at hask2⊢
 generalize btw call 0 ((D.cs.length:Int)-1)=B at *
 have HD:=qd (qg h (qg hs (qg hdv (qg hin hbt))));have HTH:=qd hth;have HAS:=qd hask2;clear h hs hdv hth hix hask hask2 hA hin hbt;obtain⟨W,hW⟩:∃W,w.alloc (Obj.cells #[.slice D.ta D.ts.length D.tc,.slice D.ga D.gs.length D.gc,.slice D.oa D.os.length D.oc,.slice D.ha D.hs.length D.hc,.slice D.ca D.cs.length D.cc] 28)=W:=⟨_,rfl⟩;have h5:B5 W w.heap.size (.slice D.ta D.ts.length D.tc) (.slice D.ga D.gs.length D.gc) (.slice D.oa D.os.length D.oc) (.slice D.ha D.hs.length D.hc) (.slice D.ca D.cs.length D.cc):=by subst hW;exact B5.new ..
 have hBW:Below w.heap.size w W:=by subst hW;go_grown
 have H5:=qd h5;obtain⟨k0,k1,k2,k3,k4⟩:=h5;by_cases hA0:A=0;rotate_left 1
 ·have has:=fun V (hB:Below w.heap.size w V)=>(HAS.out V hB).mono fun e w' hp=>(show Below V.heap.size V w'/\e=.returned (.tuple #[.slice none 0 0,.int .i64 A])from⟨hp.1,hp.2.elim (fun h=>h.2) (fun h=>absurd h.1 hA0)⟩);have HAB:=qd has;have hne:(A != 0)=true:=by simpa using hA0
  clear has HAS;go_enter (sf 13 f13),ntmps13;go_upto_region 1 with fail;try rw[hW]
  clear hW;refine wp_region_held_drew (S:=(RHL [(⟨w.heap.size,0,none⟩,.slice D.ta D.ts.length D.tc),(⟨w.heap.size,1,none⟩,.slice D.ga D.gs.length D.gc),(⟨w.heap.size,2,none⟩,.slice D.oa D.os.length D.oc),(⟨w.heap.size,3,none⟩,.slice D.ha D.hs.length D.hc),(⟨w.heap.size,4,none⟩,.slice D.ca D.cs.length D.cc)] W)) (by kernel_rfl) (by exact RHL.drew ⟨k0,k1,k2,k3,k4,Below.refl _ _⟩) (fun hHeld=>?_);refine tk 0 ?_;refine tk 1 ?_;refine tk 2 ?_;refine tk 3 ?_;(refine tk 4 ?_;try simp only[zs,Act.put]);refine tkR 5 fun K hK=>?_;go_simp;go_wp2_with (go_at_call 50;(with_reducible refine(HTH.out _).mono ?_);rintro e V1 ⟨rfl,rfl⟩);refine hK.out _ _ (by exact hHeld) (fun hHeldN=>?_);clear hK K hHeld;have hHeld:=hHeldN;clear hHeldN;try simp only[zs,Act.put]
  refine tkR 6 fun K hK=>?_;go_simp;go_wp2_with (go_at_call 49;(with_reducible refine(HAB.out _ (bcl hBW (RHL.bel hHeld))).mono ?_);rintro e X ⟨hB5,rfl⟩);refine hK.out _ _ (by exact RHL.call hHeld hB5) (fun hHeldN=>?_);clear hK K hHeld;have hHeld:=hHeldN;clear hHeldN;try simp only[zs,Act.put]
  refine tk 7 ?_;refine tk 8 ?_;refine tk 9 ?_;refine tk 10 ?_;(refine tk 11 ?_;try simp only[zs,Act.put]);refine wpAnyH_done (by kernel_rfl) ?_ _;try simp only[zs,Act.put]
  have hB4:=bcl hBW (RHL.bel hHeld);clear hHeld;go_wp2
  go_ret2
  exact⟨hB4,.inl ⟨hA0,rfl⟩⟩
 ·subst hA0;have has:=fun V (hB:Below w.heap.size w V)=>(HAS.out V hB).mono fun e w' hp=>(show Below V.heap.size V w'/\∃a c ws,e=.returned (.tuple #[.slice a ws.length c,.int .i64 0])/\0<ws.length/\ws.length<=c/\ws.map (·.l)=qO D/\qi w' 1 yU a ws/\∀x∈ws,qi w' 1 encI x.a x.l/\x.l.length<=x.c from⟨hp.1,hp.2.elim (fun h=>absurd rfl h.1) (fun h=>h.2)⟩);have HAB:=qd has;clear has HAS;go_enter (sf 13 f13),ntmps13;go_upto_region 1 with fail;try rw[hW]
  clear hW;refine wp_region_held_drew (S:=(RHL [(⟨w.heap.size,0,none⟩,.slice D.ta D.ts.length D.tc),(⟨w.heap.size,1,none⟩,.slice D.ga D.gs.length D.gc),(⟨w.heap.size,2,none⟩,.slice D.oa D.os.length D.oc),(⟨w.heap.size,3,none⟩,.slice D.ha D.hs.length D.hc),(⟨w.heap.size,4,none⟩,.slice D.ca D.cs.length D.cc)] W)) (by kernel_rfl) (by exact RHL.drew ⟨k0,k1,k2,k3,k4,Below.refl _ _⟩) (fun hHeld=>?_);refine tk 0 ?_;refine tk 1 ?_;refine tk 2 ?_;refine tk 3 ?_;(refine tk 4 ?_;try simp only[zs,Act.put]);refine tkR 5 fun K hK=>?_;go_simp;go_wp2_with (go_at_call 50;(with_reducible refine(HTH.out _).mono ?_);rintro e V1 ⟨rfl,rfl⟩);refine hK.out _ _ (by exact hHeld) (fun hHeldN=>?_);clear hK K hHeld;have hHeld:=hHeldN;clear hHeldN;try simp only[zs,Act.put]
  refine tkR 6 fun K hK=>?_;go_simp;go_wp2_with (go_at_call 49;(with_reducible refine(HAB.out _ (bcl hBW (RHL.bel hHeld))).mono ?_);intro e X hP;obtain⟨hB5,a,c,ws,he,hw0,hwc,hwm,hwr,hww⟩:=hP;subst he);refine hK.out _ _ (by exact RHL.call hHeld hB5) (fun hHeldN=>?_);clear hK K hHeld;have hHeld:=hHeldN;clear hHeldN;try simp only[zs,Act.put]
  refine tk 7 ?_;refine tk 8 ?_;refine tk 9 ?_;refine tk 10 ?_;(refine tk 11 ?_;try simp only[zs,Act.put]);refine wpAnyH_done (by kernel_rfl) ?_ _;try simp only[zs,Act.put]
  have hB4:=RHL.bel hHeld;have hBX:=bcl hBW hB4;obtain⟨hz,hB⟩:=HD.out.2.2.2.1 (by first|rfl|trivial);have hk9:=HD.out.2.2.2.2.1 hB;obtain⟨k,rfl⟩:∃k:Nat,call=k:=⟨call.toNat,by omega⟩;have hkl:k<D.cs.length:=by omega
  have hok:=qdx.of hz hwm hww;have hwl:=congrArg List.length hwm;rw[List.length_map,xq D (qE D hz).gs]at hwl
  have hcp:((qO D).countP fun u=>(qD D (setOf (qy u))).getD k 0 == -1)=ws.countP fun x=>qag D k x == -1:=by
   unfold qag;rw[<-hwm,List.countP_map];rfl
  have hwl2:=congrArg List.length hwm;rw[List.length_map]at hwl2
  have hpn:ws.length<=81:=by
   have h9:=yO D.gs [] (fun g hg=>by have:=yD D hz g hg;omega);have h8:=List.length_filter_le (fun t:List Int=>yG (qD D (setOf (qy t))) D.cs) (zO D.gs []);have h7:3 ^ D.gs.length<=81:=Nat.pow_le_pow_right (n:=3) (by decide) (qE D hz).gs;have h6:=congrArg List.length hwm;rw[List.length_map]at h6;have h5:(qO D).length<=(zO D.gs []).length:=h8;omega
  have hro:=XO D ws a c k X (HD.out.1.keep hBX) HD.out.2.1 hz ⟨hpn,hwc⟩ hwr hok hkl;rw[HD.out.2.2.1]at hro;have hcle:(ws.countP fun x=>qag D k x == -1)<=ws.length:=List.countP_le_length
  have hval:qbc D k=if(ws.countP fun x=>qag D k x == -1)=0 then 2 else if(ws.countP fun x=>qag D k x == -1)=ws.length then 1 else 0:=by
   unfold qbc;rw[hcp,<-hwl2]
  generalize(ws.countP fun x=>qag D k x == -1)=m at *
  have hsa:=fun W=>Say_any (m:Int) (ws.length:Int) W;rw[show(if(m:Int)=0 then(2:Int)else if(m:Int)=(ws.length:Int)then 1 else 0)=qbc D k by rw[hval];simp only[Int.natCast_eq_zero,Int.ofNat_inj]]at hsa;have HRO:=qd hro;have HSA:=qd hsa;obtain⟨k0,k1,k2,k3,k4,-⟩:=hHeld;have HBX:=qd hBX;clear hB4 hwr hww hwm hwl hok hBX hz hB hk9 H5 HTH HAB hw0 hro hsa hval hcp hwl2 hcle hpn;go_wp2_with (first|(go_at_call 54;(with_reducible refine HRO.out.mono ?_);rintro e V2 ⟨rfl,hB2⟩)|(go_at_call 53;(with_reducible refine(HSA.out _).mono ?_);rintro e V3 ⟨rfl,rfl⟩))
  go_ret2
  exact⟨bcl HBX.out hB2,.inr ⟨by first|rfl|trivial,by rw[Int.toNat_natCast];rfl⟩⟩
theorem qdo(p q n:Int)(first:Bool)(w:World):Calls qo 62 #[.agg #[.int .i64 p,.int .i64 q],.int .i64 n,.bool first] w fun e w'=>e=.returned (.agg #[.int .i64 (if first=true then n else min p n),.int .i64 (if first=true then n else max q n)])/\Below w.heap.size w w':=by
 obtain⟨W,hW⟩:∃W,(w.alloc (Obj.cells #[.int .i64 p,.int .i64 q] 40)).alloc (Obj.cells #[.int .i64 0,.int .i64 0] 40)=W:=⟨_,rfl⟩;have p0:W.cell? ⟨w.heap.size,0,none⟩=some (.int .i64 p):=by subst hW;go_cell
 have p1:W.cell? ⟨w.heap.size,1,none⟩=some (.int .i64 q):=by subst hW;go_cell
 have c0:W.cell? ⟨w.heap.size+1,0,none⟩=some (.int .i64 0):=by subst hW;go_cell
 have c1:W.cell? ⟨w.heap.size+1,1,none⟩=some (.int .i64 0):=by subst hW;go_cell
 have f0:W.frozen? ⟨w.heap.size+1,0,none⟩=false:=by subst hW;go_cell
 have f1:W.frozen? ⟨w.heap.size+1,1,none⟩=false:=by subst hW;go_cell
 have hBW:Below w.heap.size w W:=by subst hW;go_grown
 cases first with
 | true =>
   go_enter (sf 62 f62),ntmps62;go_upto_region 1 with fail;(try rw[hW]);clear hW;go_wp2;exact LoadR.ret_c2 results62 zV zB rfl c0 c1 ⟨rfl,LoadR.Below.set2 hBW (by omega)⟩
 | false =>
   go_enter (sf 62 f62),ntmps62;go_upto_region 1 with fail;(try rw[hW]);clear hW;go_wp2;exact LoadR.ret_c2 results62 zV zB rfl c0 c1 ⟨rfl,LoadR.Below.set2 hBW (by omega)⟩
def qcC(al:Int)(l:List Int)(w:World)(e:Ending)(w':World):Prop :=
 Below w.heap.size w w'/\((al≠0/\e=.returned (.tuple #[.agg #[.int .i64 0,.int .i64 0],.int .i64 al]))\/(al=0/\e=.returned (.tuple #[.agg #[.int .i64 (yf l).1,.int .i64 (yf l).2],.int .i64 0])))
theorem qaZ(D:DayM)(w:World)(h:DayAt w D)(hs:DaySm D):Calls qo 17 #[dv D] w (qcC (qZ D 0) (yH D) w):=by
 have hdv:=dvE D;have hask:=fun W (hB:Below w.heap.size w W)=>jD D true 0 W (h.keep hB) hs (fun h=>by cases h);simp only[if_true]at hask;unfold qai at hask;unfold qcC
 have hin:qZ D 0=0->checkN D=0:=fun e=>by
  unfold qZ at e;by_cases h1:checkN D=0
  ·exact h1
  ·rw[if_pos h1]at e;exact absurd e h1
 generalize qZ D 0=A at *
 simp only[hdv]at hask⊢;have HD:=qd (qg h (qg hs (qg hdv hin)));have HAS:=qd hask;clear h hs hdv hask hin;obtain⟨W,hW⟩:∃W,(w.alloc (Obj.cells #[.slice D.ta D.ts.length D.tc,.slice D.ga D.gs.length D.gc,.slice D.oa D.os.length D.oc,.slice D.ha D.hs.length D.hc,.slice D.ca D.cs.length D.cc] 28)).alloc (Obj.cells #[.int .i64 0,.int .i64 0] 40)=W:=⟨_,rfl⟩;have h5:B5 W w.heap.size (.slice D.ta D.ts.length D.tc) (.slice D.ga D.gs.length D.gc) (.slice D.oa D.os.length D.oc) (.slice D.ha D.hs.length D.hc) (.slice D.ca D.cs.length D.cc):=by subst hW;exact⟨by go_cell,by go_cell,by go_cell,by go_cell,by go_cell⟩
 have c0:W.cell? ⟨w.heap.size+1,0,none⟩=some (.int .i64 0):=by subst hW;go_cell
 have c1:W.cell? ⟨w.heap.size+1,1,none⟩=some (.int .i64 0):=by subst hW;go_cell
 have f0:W.frozen? ⟨w.heap.size+1,0,none⟩=false:=by subst hW;go_cell
 have f1:W.frozen? ⟨w.heap.size+1,1,none⟩=false:=by subst hW;go_cell
 have hBW:Below w.heap.size w W:=by subst hW;go_grown
 have H5:=qd h5;obtain⟨k0,k1,k2,k3,k4⟩:=h5;by_cases hA0:A=0;rotate_left 1
 ·have has:=fun V (hB:Below w.heap.size w V)=>(HAS.out V hB).mono fun e w' hp=>(show Below V.heap.size V w'/\e=.returned (.tuple #[.slice none 0 0,.int .i64 A])from⟨hp.1,hp.2.elim (fun h=>h.2) (fun h=>absurd h.1 hA0)⟩);have HAB:=qd has;have hne:(A != 0)=true:=by simpa using hA0
  have HA0:=qd hA0;clear has HAS hA0;go_enter (sf 17 f17),ntmps17;go_upto_region 1 with fail;try rw[hW]
  clear hW;go_upto_region 2 with(go_at_call 49;(with_reducible refine(HAB.out _ hBW).mono ?_);rintro e X ⟨hB5,rfl⟩;replace f0:=qf _ hB5 c0 f0;replace f1:=qf _ hB5 c1 f1;replace c0:=qb _ hB5 c0;replace c1:=qb _ hB5 c1);have hB4:=bcl hBW hB5;go_wp2;exact LoadR.ret_ct2 results17 zV zB rfl rfl c0 c1 ⟨LoadR.Below.set2 hB4 (by omega),.inl ⟨HA0.out,rfl⟩⟩
 ·subst hA0;have has:=fun V (hB:Below w.heap.size w V)=>(HAS.out V hB).mono fun e w' hp=>(show Below V.heap.size V w'/\∃a c ws,e=.returned (.tuple #[.slice a ws.length c,.int .i64 0])/\0<ws.length/\ws.length<=c/\ws.map (·.l)=qO D/\qi w' 1 yU a ws/\∀x∈ws,qi w' 1 encI x.a x.l/\x.l.length<=x.c from⟨hp.1,hp.2.elim (fun h=>absurd rfl h.1) (fun h=>h.2)⟩);have HAB:=qd has;clear has HAS;go_enter (sf 17 f17),ntmps17;go_upto_region 1 with fail;try rw[hW]
  clear hW;go_upto_region 2 with(go_at_call 49;(with_reducible refine(HAB.out _ hBW).mono ?_);intro e X hP;obtain⟨hB5,a,c,ws,he,hw0,hwc,hwm,hwr,hww⟩:=hP;subst he);have hBX:=bcl hBW hB5;replace f0:=qf _ hB5 c0 f0;replace f1:=qf _ hB5 c1 f1;replace c0:=qb _ hB5 c0;replace c1:=qb _ hB5 c1;have hz:=HD.out.2.2.2 (by first|rfl|trivial);have hok:=qdx.of hz hwm hww
  have hll:yH D=ws.map fun x=>jb D (setOf (qy x.l)):=by
   unfold yH;rw[<-hwm,List.map_map];rfl
  have hlo:=fun(x:WayM) (hx:x∈ws) V (hB:Below X.heap.size X V)=>qcc D x.l x.a x.c V (HD.out.1.keep (bcl hBX hB)) HD.out.2.1 hz (hok x hx).2.2.1 (hok x hx).2.1 ((hok x hx).1.keep hB) (fun y hy=>by have:=(hok x hx).2.2.2 y hy;omega);simp only[HD.out.2.2.1]at hlo;have HLO:=qd hlo;have hwx:w.heap.size+1<X.heap.size:=lt_of_cell c0;have HX:=qd (qg hwr (qg hBX (qg (H5.out.keep hB5) (qg c0 (qg c1 (qg f0 (qg f1 hll)))))))
  have hl27:ws.length<=1000:=by
   have h9:=yO D.gs [] (fun g hg=>by have:=yD D hz g hg;omega);have h8:=List.length_filter_le (fun t:List Int=>yG (qD D (setOf (qy t))) D.cs) (zO D.gs []);have h7:3 ^ D.gs.length<=81:=Nat.pow_le_pow_right (n:=3) (by decide) (qE D hz).gs;have h6:=congrArg List.length hwm;rw[List.length_map]at h6;have h5:(qO D).length<=(zO D.gs []).length:=h8;omega
  clear hwr hww hwm hok hlo hz hll hBX hB5 k0 k1 k2 k3 k4 f0 f1 c0 c1 hBW HAB H5 hw0;go_upto_region 5 with fail;obtain⟨Y,hY⟩:∃Y,X.alloc (Obj.cells #[.int .i64 0,.int .i64 0] 40)=Y:=⟨_,rfl⟩;have hBY:Below X.heap.size X Y:=by subst hY;go_grown
  have x0:Y.cell? ⟨X.heap.size,0,none⟩=some (.int .i64 0):=by subst hY;go_cell
  have x1:Y.cell? ⟨X.heap.size,1,none⟩=some (.int .i64 0):=by subst hY;go_cell
  have g0:Y.frozen? ⟨X.heap.size,0,none⟩=false:=by subst hY;go_cell
  have g1:Y.frozen? ⟨X.heap.size,1,none⟩=false:=by subst hY;go_cell
  rw[hY];clear hY;have HY:=qd (qg x0 (qg x1 (qg g0 g1)));clear x0 x1 g0 g1;go_wp2;go_loopw [7] (fun i wr=>∃(j:Nat),i=.int .i64 j/\j<=ws.length/\Hid (Below X.heap.size X wr)/\Hid (wr.cell? ⟨X.heap.size,0,none⟩=some (.int .i64 (yf ((yH D).take j)).1)/\wr.cell? ⟨X.heap.size,1,none⟩=some (.int .i64 (yf ((yH D).take j)).2)/\wr.frozen? ⟨X.heap.size,0,none⟩=false/\wr.frozen? ⟨X.heap.size,1,none⟩=false)) (fun i _=>ws.length-(intOf i).toNat);case atStart=>exact⟨0,rfl,Nat.zero_le _,qd hBY,qd (by simpa[yf]using HY.out)⟩
  case round =>
   obtain⟨j,rfl,hj,HB,HC⟩:=hrel;obtain⟨x0,x1,g0,g1⟩:=HC.out;by_cases hlt:j<ws.length
   ·obtain⟨k0,k1,k2,k3,k4⟩:=HX.out.2.2.1.keep HB.out;obtain⟨x,hx⟩:∃x,ws[j]? = some x:=⟨_,qG hlt⟩;obtain⟨b,o,rfl,hP⟩:=HX.out.1 (by omega);have d0:=qb _ HB.out (hP j x hx 0 _ rfl);simp only[Nat.mul_one,Nat.add_zero]at d0;have hj1:(j:Int)<(ws.length:Int):=(by omega);have hj2:(j:Int)<=(c:Int):=(by omega);have hlo:=HLO.out x (qI hx)
    have hst:(yH D).take (j+1)=(yH D).take j++[jb D (setOf (qy x.l))]:=by
     rw[HX.out.2.2.2.2.2.2.2];have h9:(ws.map fun x=>jb D (setOf (qy x.l)))[j]? = some (jb D (setOf (qy x.l))):=(by rw[List.getElem?_map,hx];rfl);obtain⟨h8,h7⟩:=qC h9;rw[List.take_succ_eq_append_getElem h8,h7]
    have hlj:((yH D).take j).length=j:=(by rw[HX.out.2.2.2.2.2.2.2,List.length_take,List.length_map];omega);have hbd:=qak ((yH D).take j) (jb D (setOf (qy x.l)));rw[<-hst,hlj]at hbd
    generalize jb D (setOf (qy x.l))=n at *
    obtain⟨p,hp⟩:∃p,(yf ((yH D).take j)).1=p:=⟨_,rfl⟩;obtain⟨q,hq⟩:∃q,(yf ((yH D).take j)).2=q:=⟨_,rfl⟩;rw[hp]at x0 hbd;rw[hq]at x1 hbd;have hwi:=qdo p q n (decide (j=0))
    have hje:((j:Int)==0)=decide (j=0):=by
     rw[Bool.eq_iff_iff];simp
    have HLX:=qd hlo;obtain⟨F,hF⟩:∃F,decide (j=0)=F:=⟨_,rfl⟩;rw[hF]at hje hwi;obtain⟨P,hPe⟩:∃P,(if F=true then n else min p n)=P:=⟨_,rfl⟩;obtain⟨Q,hQe⟩:∃Q,(if F=true then n else max q n)=Q:=⟨_,rfl⟩;rw[hPe,hQe]at hwi
    have hbe:yf ((yH D).take (j+1))=(P,Q):=by
     rw[hbd,<-hPe,<-hQe,<-hF];by_cases h9:j=0
     ·simp[h9]
     ·simp[h9]
    have HBD:=qd hbe;have HWI:=qd hwi;clear hP hx hlo hst hlj hbd hbe hPe hQe hwi hp hq hF HC;go_upto_region 8 with fail;refine Go.RouteHead.wp_region_head (n:=10) (S:=RHL [(⟨w.heap.size,0,none⟩,.slice D.ta D.ts.length D.tc),(⟨w.heap.size,1,none⟩,.slice D.ga D.gs.length D.gc),(⟨w.heap.size,2,none⟩,.slice D.oa D.os.length D.oc),(⟨w.heap.size,3,none⟩,.slice D.ha D.hs.length D.hc),(⟨w.heap.size,4,none⟩,.slice D.ca D.cs.length D.cc),(⟨b,o+j,none⟩,.slice x.a x.l.length x.c),(⟨X.heap.size,0,none⟩,.int .i64 p),(⟨X.heap.size,1,none⟩,.int .i64 q)] wr) _ (by kernel_rfl) (by kernel_rfl) (by kernel_rfl) (by kernel_rfl) (by kernel_rfl) rfl (by exact RHL.drew ⟨k0,k1,k2,k3,k4,d0,x0,x1,Below.refl _ _⟩) (fun hHeld hC hI=>?_);refine Go.RouteHead.xk 0 hC hI fun hI=>?_;refine Go.RouteHead.xk 1 hC hI fun hI=>?_;refine Go.RouteHead.xk 2 hC hI fun hI=>?_;refine Go.RouteHead.xk 3 hC hI fun hI=>?_;refine Go.RouteHead.xk 4 hC hI fun hI=>?_;refine Go.RouteHead.xk 5 hC hI fun hI=>?_;refine Go.RouteHead.xk 7 hC hI fun hI=>?_;refine Go.RouteHead.xk 8 hC hI fun hI=>?_;(try simp only[zs,Act.put]);refine Go.RouteHead.wpHead_one (i:=6) hI (by kernel_rfl) (by kernel_rfl) rfl (fun K hK=>?_);go_simp;go_wp2_with (go_at_call 66;(with_reducible refine(HLX.out _ (bcl HB.out (RHL.bel hHeld))).mono ?_);rintro e V6 ⟨rfl,hB6⟩);refine hK.out _ _ (by exact RHL.call hHeld hB6) (fun hHeldN hIN=>?_);clear hK K hHeld hI;have hHeld:=hHeldN;have hI:=hIN;clear hHeldN hIN;(try simp only[zs,Act.put]);refine Go.RouteHead.wpHead_one (i:=9) hI (by kernel_rfl) (by kernel_rfl) rfl (fun K hK=>?_);go_simp;go_wp2_with (go_at_call 62;(with_reducible refine(HWI.out _).mono ?_);rintro e V9 ⟨rfl,hB9⟩);refine hK.out _ _ (by exact RHL.call hHeld hB9) (fun hHeldN hIN=>?_);clear hK K hHeld hI;have hHeld:=hHeldN;have hI:=hIN;clear hHeldN hIN;try simp only[zs,Act.put]
    refine⟨by kernel_rfl,?_⟩;clear hC hI;simp only[List.drop_succ_cons,List.drop_zero];(try simp only[zs,Act.put]);have hB4:=RHL.bel hHeld;replace g0:=qf _ hB4 x0 g0;replace g1:=qf _ hB4 x1 g1;replace x0:=qb _ hB4 x0;replace x1:=qb _ hB4 x1;have HB9:=qd (bcl HB.out hB4);clear hHeld k0 k1 k2 k3 k4 d0 hB4 hB6 hB9 HLX HWI hje;go_wp2;go_roundw
    case rel =>
     refine⟨j+1,rfl,by omega,qd ((HB9.out.setCell (p:=⟨X.heap.size,0,none⟩) ql _).setCell (p:=⟨X.heap.size,1,none⟩) ql _),qd ?_⟩;rw[HBD.out];exact⟨qj (qA (qN x0)) (.inr (by simp)),qA (qR (qN x1)),by simpa using g0,by simpa using g1⟩
    case measure=>simp[intOf];omega
   ·obtain rfl:j=ws.length:=by omega
    have hta:(yH D).take ws.length=yH D:=by
     rw[HX.out.2.2.2.2.2.2.2];exact List.take_of_length_le (by rw[List.length_map];exact ql)
    rw[hta]at x0 x1;have c0:=qb _ HB.out HX.out.2.2.2.1;have c1:=qb _ HB.out HX.out.2.2.2.2.1;have f0:=qf _ HB.out HX.out.2.2.2.1 HX.out.2.2.2.2.2.1;have f1:=qf _ HB.out HX.out.2.2.2.2.1 HX.out.2.2.2.2.2.2.1;have hBw:=bcl HX.out.2.1 HB.out;go_wp2;exact LoadR.ret_ct2 results17 zV zB rfl rfl c0 c1 ⟨LoadR.Below.set2 hBw (by omega),.inr ⟨by first|rfl|trivial,rfl⟩⟩
theorem qfy(D:DayM)(g t:Int):qZ D (QT D g t)=if checkN D≠0 then checkN D else if btw g 0 ((D.gs.length:Int)-1)=true then qZ D (if btw t 0 99=true then 0 else 1)else 6:=by
 unfold QT qF qZ;by_cases h1:checkN D=0
 ·cases h2:btw g 0 ((D.gs.length:Int)-1)<;>cases h3:btw t 0 99<;>simp[h1]
 ·simp[h1]
theorem qaY(D:DayM)(g t:Int)(w:World)(h:DayAt w D)(hs:DaySm D):Calls qo 15 #[dv D,.int .i64 g,.int .i64 t] w (qcC (qZ D (QT D g t)) (yF D g.toNat t) w):=by
 have hdv:=dvE D;have hck:=fun W (hB:Below w.heap.size w W)=>yB D W (h.keep hB) hs;have hth:=fun W=>xL g D.gs.length (by omega) (by have:=hs.gs.1;omega) W;have hti:=fun W=>Qi t W;have hask:=fun W (hB:Below w.heap.size w W)=>jD D (btw t 0 99) 1 W (h.keep hB) hs (fun _=>by decide);unfold qai at hask;unfold qcC;rw[qfy];have hbt:=@zF g 0 ((D.gs.length:Int)-1)
 generalize btw g 0 ((D.gs.length:Int)-1)=G at *
 generalize btw t 0 99=T at *
 have hin:qZ D (if T=true then 0 else 1)=0->T=true:=fun e=>by
  have h2:=(zh e).2;cases T
  ·simp at h2
  ·rfl
 generalize qZ D (if T=true then 0 else 1)=A at *
 obtain⟨C,hC⟩:∃C,checkN D=C:=⟨_,rfl⟩;rw[hC]at hck⊢;simp only[hdv]at hask hck⊢;have HD:=qd (qg h (qg hs (qg hdv (qg hC (qg hbt hin)))));have HAS:=qd hask;have HCK:=qd hck;have HTH:=qd hth;have HTI:=qd hti;clear h hs hdv hask hin hck hth hti hbt hC;obtain⟨W,hW⟩:∃W,(w.alloc (Obj.cells #[.slice D.ta D.ts.length D.tc,.slice D.ga D.gs.length D.gc,.slice D.oa D.os.length D.oc,.slice D.ha D.hs.length D.hc,.slice D.ca D.cs.length D.cc] 28)).alloc (Obj.cells #[.int .i64 0,.int .i64 0] 40)=W:=⟨_,rfl⟩;have h5:B5 W w.heap.size (.slice D.ta D.ts.length D.tc) (.slice D.ga D.gs.length D.gc) (.slice D.oa D.os.length D.oc) (.slice D.ha D.hs.length D.hc) (.slice D.ca D.cs.length D.cc):=by subst hW;exact⟨by go_cell,by go_cell,by go_cell,by go_cell,by go_cell⟩
 have c0:W.cell? ⟨w.heap.size+1,0,none⟩=some (.int .i64 0):=by subst hW;go_cell
 have c1:W.cell? ⟨w.heap.size+1,1,none⟩=some (.int .i64 0):=by subst hW;go_cell
 have f0:W.frozen? ⟨w.heap.size+1,0,none⟩=false:=by subst hW;go_cell
 have f1:W.frozen? ⟨w.heap.size+1,1,none⟩=false:=by subst hW;go_cell
 have hBW:Below w.heap.size w W:=by subst hW;go_grown
 have H5:=qd h5;obtain⟨k0,k1,k2,k3,k4⟩:=h5;by_cases hC0:C=0;rotate_left 1
 ·have hne:(C != 0)=true:=by simpa using hC0
  have HC0:=qd hC0;rw[if_pos hC0];clear hC0;go_enter (sf 15 f15),ntmps15;go_upto_region 1 with fail;try rw[hW]
  clear hW;go_upto_region 2 with(go_at_call 26;(with_reducible refine(HCK.out _ hBW).mono ?_);rintro e X ⟨rfl,hB5⟩;replace f0:=qf _ hB5 c0 f0;replace f1:=qf _ hB5 c1 f1;replace c0:=qb _ hB5 c0;replace c1:=qb _ hB5 c1);have hB4:=bcl hBW hB5;go_wp2;exact LoadR.ret_ct2 results15 zV zB rfl rfl c0 c1 ⟨LoadR.Below.set2 hB4 (by omega),.inl ⟨HC0.out,rfl⟩⟩
 subst hC0;rw[if_neg (by simp)];obtain⟨E,hE⟩:∃E,(if G=true then A else 6)=E:=⟨_,rfl⟩;rw[hE];have HE:=qd hE;clear hE;go_enter (sf 15 f15),ntmps15;go_upto_region 1 with fail;try rw[hW]
 clear hW;go_upto_region 2 with(go_at_call 26;(with_reducible refine(HCK.out _ hBW).mono ?_);rintro e X1 ⟨rfl,hB1⟩;replace f0:=qf _ hB1 c0 f0;replace f1:=qf _ hB1 c1 f1;replace c0:=qb _ hB1 c0;replace c1:=qb _ hB1 c1);replace h5:=H5.out.keep hB1;have hB1W:=bcl hBW hB1;clear H5 k0 k1 k2 k3 k4 hBW hB1;have H5:=qd h5;obtain⟨k0,k1,k2,k3,k4⟩:=h5;cases G
 ·obtain rfl:6=E:=HE.out;clear HE;go_wp2_with (first|(go_at_call 50;(with_reducible refine(HTH.out _).mono ?_);rintro e w1 ⟨rfl,rfl⟩));exact LoadR.ret_ct2 results15 zV zB rfl rfl c0 c1 ⟨LoadR.Below.set2 hB1W (by omega),.inl ⟨by decide,rfl⟩⟩
 obtain rfl:A=E:=HE.out;clear HE;go_upto_region 6 with((go_at_call 50;(with_reducible refine(HTH.out _).mono ?_);rintro e w1 ⟨rfl,rfl⟩));by_cases hA0:A=0;rotate_left 1
 ·have has:=fun V (hB:Below w.heap.size w V)=>(HAS.out V hB).mono fun e w' hp=>(show Below V.heap.size V w'/\e=.returned (.tuple #[.slice none 0 0,.int .i64 A])from⟨hp.1,hp.2.elim (fun h=>h.2) (fun h=>absurd h.1 hA0)⟩);have HAB:=qd has;have hne:(A != 0)=true:=by simpa using hA0
  have HA0:=qd hA0;clear has HAS hA0;refine wp_region_held_drew (S:=(RHL [(⟨w.heap.size,0,none⟩,.slice D.ta D.ts.length D.tc),(⟨w.heap.size,1,none⟩,.slice D.ga D.gs.length D.gc),(⟨w.heap.size,2,none⟩,.slice D.oa D.os.length D.oc),(⟨w.heap.size,3,none⟩,.slice D.ha D.hs.length D.hc),(⟨w.heap.size,4,none⟩,.slice D.ca D.cs.length D.cc)] X1)) (by kernel_rfl) (by exact RHL.drew ⟨k0,k1,k2,k3,k4,Below.refl _ _⟩) (fun hHeld=>?_);refine tk 0 ?_;(refine tk 1 ?_;try simp only[zs,Act.put]);refine tkR 2 fun K hK=>?_;go_simp;go_wp2_with (go_at_call 61;(with_reducible refine(HTI.out _).mono ?_);rintro e V1 ⟨rfl,rfl⟩);refine hK.out _ _ (by exact hHeld) (fun hHeldN=>?_);clear hK K hHeld;have hHeld:=hHeldN;clear hHeldN;try simp only[zs,Act.put]
  refine tkR 3 fun K hK=>?_;go_simp;go_wp2_with (go_at_call 49;(with_reducible refine(HAB.out _ (bcl hB1W (RHL.bel hHeld))).mono ?_);rintro e X ⟨hB5,rfl⟩);refine hK.out _ _ (by exact RHL.call hHeld hB5) (fun hHeldN=>?_);clear hK K hHeld;have hHeld:=hHeldN;clear hHeldN;try simp only[zs,Act.put]
  refine tk 4 ?_;refine tk 5 ?_;refine tk 6 ?_;refine tk 7 ?_;(refine tk 8 ?_;try simp only[zs,Act.put]);refine wpAnyH_done (by kernel_rfl) ?_ _;try simp only[zs,Act.put]
  have hB6:=RHL.bel hHeld;have hB4:=bcl hB1W hB6;clear hHeld;replace f0:=qf _ hB6 c0 f0;replace f1:=qf _ hB6 c1 f1;replace c0:=qb _ hB6 c0;replace c1:=qb _ hB6 c1;go_wp2;exact LoadR.ret_ct2 results15 zV zB rfl rfl c0 c1 ⟨LoadR.Below.set2 hB4 (by omega),.inl ⟨HA0.out,rfl⟩⟩
 ·subst hA0;have has:=fun V (hB:Below w.heap.size w V)=>(HAS.out V hB).mono fun e w' hp=>(show Below V.heap.size V w'/\∃a c ws,e=.returned (.tuple #[.slice a ws.length c,.int .i64 0])/\0<ws.length/\ws.length<=c/\ws.map (·.l)=qO D/\qi w' 1 yU a ws/\∀x∈ws,qi w' 1 encI x.a x.l/\x.l.length<=x.c from⟨hp.1,hp.2.elim (fun h=>absurd rfl h.1) (fun h=>h.2)⟩);have HAB:=qd has;clear has HAS;refine wp_region_held_drew (S:=(RHL [(⟨w.heap.size,0,none⟩,.slice D.ta D.ts.length D.tc),(⟨w.heap.size,1,none⟩,.slice D.ga D.gs.length D.gc),(⟨w.heap.size,2,none⟩,.slice D.oa D.os.length D.oc),(⟨w.heap.size,3,none⟩,.slice D.ha D.hs.length D.hc),(⟨w.heap.size,4,none⟩,.slice D.ca D.cs.length D.cc)] X1)) (by kernel_rfl) (by exact RHL.drew ⟨k0,k1,k2,k3,k4,Below.refl _ _⟩) (fun hHeld=>?_);refine tk 0 ?_;(refine tk 1 ?_;try simp only[zs,Act.put]);refine tkR 2 fun K hK=>?_;go_simp;go_wp2_with (go_at_call 61;(with_reducible refine(HTI.out _).mono ?_);rintro e V1 ⟨rfl,rfl⟩);refine hK.out _ _ (by exact hHeld) (fun hHeldN=>?_);clear hK K hHeld;have hHeld:=hHeldN;clear hHeldN;try simp only[zs,Act.put]
  refine tkR 3 fun K hK=>?_;go_simp;go_wp2_with (go_at_call 49;(with_reducible refine(HAB.out _ (bcl hB1W (RHL.bel hHeld))).mono ?_);intro e X hP;obtain⟨hB5,a,c,ws,he,hw0,hwc,hwm,hwr,hww⟩:=hP;subst he);refine hK.out _ _ (by exact RHL.call hHeld hB5) (fun hHeldN=>?_);clear hK K hHeld;have hHeld:=hHeldN;clear hHeldN;try simp only[zs,Act.put]
  refine tk 4 ?_;refine tk 5 ?_;refine tk 6 ?_;refine tk 7 ?_;(refine tk 8 ?_;try simp only[zs,Act.put]);refine wpAnyH_done (by kernel_rfl) ?_ _;try simp only[zs,Act.put]
  have hB6:=RHL.bel hHeld;have hBX:=bcl hB1W hB6;replace f0:=qf _ hB6 c0 f0;replace f1:=qf _ hB6 c1 f1;replace c0:=qb _ hB6 c0;replace c1:=qb _ hB6 c1;have hz:checkN D=0:=HD.out.2.2.2.1;have hgg:=HD.out.2.2.2.2.1.1 (by first|rfl|trivial);obtain⟨k,rfl⟩:∃k:Nat,g=k:=⟨g.toNat,by omega⟩;have hkl:k<D.gs.length:=by omega
  have hok:=qdx.of hz hwm hww
  have hll:yF D (k:Int).toNat t=ws.map fun x=>QH D (x.l.getD k 0) (qD D (setOf (qy x.l))) k t:=by
   unfold yF;rw[<-hwm,List.map_map];rfl
  have hpl:=fun(x:WayM) (hx:x∈ws) V (hB:Below X.heap.size X V)=>xx D x.l x.a x.c V (HD.out.1.keep (bcl hBX hB)) HD.out.2.1 hz (hok x hx).2.2.1 (hok x hx).2.1 ((hok x hx).1.keep hB) (fun y hy=>by have:=(hok x hx).2.2.2 y hy;omega);have hfo:=fun(x:WayM) (hx:x∈ws) (ra:Option Addr) (rc:Nat) (hrc:D.cs.length<=rc) V (hB:Below X.heap.size X V) (hr:qi V 1 encI ra (qD D (setOf (qy x.l))))=>Xr D x.l (qD D (setOf (qy x.l))) x.a ra x.c rc k t V (HD.out.1.keep (bcl hBX hB)) HD.out.2.1 ⟨by rw[(hok x hx).2.2.1];exact HD.out.2.1.gs.1,(hok x hx).2.1⟩ ((hok x hx).1.keep hB) (fun y hy=>by have:=(hok x hx).2.2.2 y hy;omega) (by rw[(hok x hx).2.2.1];exact hkl) ⟨by rw[qK];exact ql,by rw[qK];exact hrc⟩ hr (fun k r c h1 h2=>(Zw D _ h1 h2).1) (qE D hz).hs;simp only[qK]at hfo;simp only[HD.out.2.2.1]at hpl hfo;have HPL:=qd hpl;have HFO:=qd hfo;have hwx:w.heap.size+1<X.heap.size:=lt_of_cell c0;have HX:=qd (qg hwr (qg hBX (qg (H5.out.keep hB6) (qg c0 (qg c1 (qg f0 (qg f1 hll)))))))
  have hl27:ws.length<=1000:=by
   have h9:=yO D.gs [] (fun g hg=>by have:=yD D hz g hg;omega);have h8:=List.length_filter_le (fun t:List Int=>yG (qD D (setOf (qy t))) D.cs) (zO D.gs []);have h7:3 ^ D.gs.length<=81:=Nat.pow_le_pow_right (n:=3) (by decide) (qE D hz).gs;have h6:=congrArg List.length hwm;rw[List.length_map]at h6;have h5:(qO D).length<=(zO D.gs []).length:=h8;omega
  clear hwr hww hwm hok hpl hfo hll hBX hB6 k0 k1 k2 k3 k4 f0 f1 c0 c1 HAB H5 hw0 hHeld hgg hz;go_upto_region 10 with fail;obtain⟨Y,hY⟩:∃Y,X.alloc (Obj.cells #[.int .i64 0,.int .i64 0] 40)=Y:=⟨_,rfl⟩;have hBY:Below X.heap.size X Y:=by subst hY;go_grown
  have x0:Y.cell? ⟨X.heap.size,0,none⟩=some (.int .i64 0):=by subst hY;go_cell
  have x1:Y.cell? ⟨X.heap.size,1,none⟩=some (.int .i64 0):=by subst hY;go_cell
  have g0:Y.frozen? ⟨X.heap.size,0,none⟩=false:=by subst hY;go_cell
  have g1:Y.frozen? ⟨X.heap.size,1,none⟩=false:=by subst hY;go_cell
  rw[hY];clear hY;have HY:=qd (qg x0 (qg x1 (qg g0 g1)));clear x0 x1 g0 g1;go_wp2;go_loopw [12] (fun i wr=>∃(j:Nat),i=.int .i64 j/\j<=ws.length/\Hid (Below X.heap.size X wr)/\Hid (wr.cell? ⟨X.heap.size,0,none⟩=some (.int .i64 (yf ((yF D (k:Int).toNat t).take j)).1)/\wr.cell? ⟨X.heap.size,1,none⟩=some (.int .i64 (yf ((yF D (k:Int).toNat t).take j)).2)/\wr.frozen? ⟨X.heap.size,0,none⟩=false/\wr.frozen? ⟨X.heap.size,1,none⟩=false)) (fun i _=>ws.length-(intOf i).toNat);case atStart=>exact⟨0,rfl,Nat.zero_le _,qd hBY,qd (by simpa[yf]using HY.out)⟩
  case round =>
   obtain⟨j,rfl,hj,HB,HC⟩:=hrel;obtain⟨x0,x1,g0,g1⟩:=HC.out;by_cases hlt:j<ws.length
   ·obtain⟨k0,k1,k2,k3,k4⟩:=HX.out.2.2.1.keep HB.out;obtain⟨x,hx⟩:∃x,ws[j]? = some x:=⟨_,qG hlt⟩;obtain⟨b,o,rfl,hP⟩:=HX.out.1 (by omega);have d0:=qb _ HB.out (hP j x hx 0 _ rfl);simp only[Nat.mul_one,Nat.add_zero]at d0;have hj1:(j:Int)<(ws.length:Int):=(by omega);have hj2:(j:Int)<=(c:Int):=(by omega);have hpl:=HPL.out x (qI hx);have hfo:=HFO.out x (qI hx)
    have hst:(yF D (k:Int).toNat t).take (j+1)=(yF D (k:Int).toNat t).take j++[QH D (x.l.getD k 0) (qD D (setOf (qy x.l))) k t]:=by
     rw[HX.out.2.2.2.2.2.2.2];have h9:(ws.map fun x=>QH D (x.l.getD k 0) (qD D (setOf (qy x.l))) k t)[j]? = some (QH D (x.l.getD k 0) (qD D (setOf (qy x.l))) k t):=(by rw[List.getElem?_map,hx];rfl);obtain⟨h8,h7⟩:=qC h9;rw[List.take_succ_eq_append_getElem h8,h7]
    have hlj:((yF D (k:Int).toNat t).take j).length=j:=(by rw[HX.out.2.2.2.2.2.2.2,List.length_take,List.length_map];omega);have hbd:=qak ((yF D (k:Int).toNat t).take j) (QH D (x.l.getD k 0) (qD D (setOf (qy x.l))) k t);rw[<-hst,hlj]at hbd;obtain⟨n,hn⟩:∃n,QH D (x.l.getD k 0) (qD D (setOf (qy x.l))) k t=n:=⟨_,rfl⟩;simp only[hn]at hfo hst hbd;obtain⟨PL,hPL⟩:∃PL,qD D (setOf (qy x.l))=PL:=⟨_,rfl⟩;simp only[hPL]at hpl hfo;obtain⟨p,hp⟩:∃p,(yf ((yF D (k:Int).toNat t).take j)).1=p:=⟨_,rfl⟩;obtain⟨q,hq⟩:∃q,(yf ((yF D (k:Int).toNat t).take j)).2=q:=⟨_,rfl⟩;rw[hp]at x0 hbd;rw[hq]at x1 hbd;have hwi:=qdo p q n (decide (j=0))
    have hje:((j:Int)==0)=decide (j=0):=by
     rw[Bool.eq_iff_iff];simp
    have HPX:=qd hpl;have HFX:=qd hfo;obtain⟨F,hF⟩:∃F,decide (j=0)=F:=⟨_,rfl⟩;rw[hF]at hje hwi;obtain⟨P,hPe⟩:∃P,(if F=true then n else min p n)=P:=⟨_,rfl⟩;obtain⟨Q,hQe⟩:∃Q,(if F=true then n else max q n)=Q:=⟨_,rfl⟩;rw[hPe,hQe]at hwi
    have hbe:yf ((yF D (k:Int).toNat t).take (j+1))=(P,Q):=by
     rw[hbd,<-hPe,<-hQe,<-hF];by_cases h9:j=0
     ·simp[h9]
     ·simp[h9]
    have HBD:=qd hbe;have HWI:=qd hwi;clear hP hx hpl hfo hn hPL hst hlj hbd hbe hPe hQe hwi hp hq hF HC;go_upto_region 13 with fail;refine Go.RouteHead.wp_region_head (n:=18) (S:=RHL [(⟨w.heap.size,0,none⟩,.slice D.ta D.ts.length D.tc),(⟨w.heap.size,1,none⟩,.slice D.ga D.gs.length D.gc),(⟨w.heap.size,2,none⟩,.slice D.oa D.os.length D.oc),(⟨w.heap.size,3,none⟩,.slice D.ha D.hs.length D.hc),(⟨w.heap.size,4,none⟩,.slice D.ca D.cs.length D.cc),(⟨b,o+j,none⟩,.slice x.a x.l.length x.c),(⟨X.heap.size,0,none⟩,.int .i64 p),(⟨X.heap.size,1,none⟩,.int .i64 q)] wr) _ (by kernel_rfl) (by kernel_rfl) (by kernel_rfl) (by kernel_rfl) (by kernel_rfl) rfl (by exact RHL.drew ⟨k0,k1,k2,k3,k4,d0,x0,x1,Below.refl _ _⟩) (fun hHeld hC hI=>?_);refine Go.RouteHead.xk 0 hC hI fun hI=>?_;refine Go.RouteHead.xk 1 hC hI fun hI=>?_;refine Go.RouteHead.xk 2 hC hI fun hI=>?_;refine Go.RouteHead.xk 3 hC hI fun hI=>?_;refine Go.RouteHead.xk 4 hC hI fun hI=>?_;refine Go.RouteHead.xk 5 hC hI fun hI=>?_;refine Go.RouteHead.xk 6 hC hI fun hI=>?_;refine Go.RouteHead.xk 7 hC hI fun hI=>?_;refine Go.RouteHead.xk 8 hC hI fun hI=>?_;refine Go.RouteHead.xk 9 hC hI fun hI=>?_;refine Go.RouteHead.xk 10 hC hI fun hI=>?_;refine Go.RouteHead.xk 12 hC hI fun hI=>?_;refine Go.RouteHead.xk 13 hC hI fun hI=>?_;refine Go.RouteHead.xk 15 hC hI fun hI=>?_;refine Go.RouteHead.xk 16 hC hI fun hI=>?_;(try simp only[zs,Act.put]);refine Go.RouteHead.wpHead_one (i:=11) hI (by kernel_rfl) (by kernel_rfl) rfl (fun K hK=>?_);go_simp;go_wp2_with (go_at_call 51;(with_reducible refine(HPX.out _ (bcl HB.out (RHL.bel hHeld))).mono ?_);rintro e V6 ⟨⟨ra,rc,rfl,hrc,hrr⟩,hB6⟩);refine hK.out _ _ (by exact RHL.call hHeld hB6) (fun hHeldN hIN=>?_);clear hK K hHeld hI;have hHeld:=hHeldN;have hI:=hIN;clear hHeldN hIN;try simp only[zs,Act.put]
    refine Go.RouteHead.wpHead_one (i:=14) hI (by kernel_rfl) (by kernel_rfl) rfl (fun K hK=>?_);go_simp;go_wp2_with (go_at_call 32;(with_reducible refine(HFX.out ra rc hrc _ (bcl HB.out (RHL.bel hHeld)) hrr).mono ?_);rintro e V8 ⟨rfl,hB8⟩);refine hK.out _ _ (by exact RHL.call hHeld hB8) (fun hHeldN hIN=>?_);clear hK K hHeld hI;have hHeld:=hHeldN;have hI:=hIN;clear hHeldN hIN;(try simp only[zs,Act.put]);refine Go.RouteHead.wpHead_one (i:=17) hI (by kernel_rfl) (by kernel_rfl) rfl (fun K hK=>?_);go_simp;go_wp2_with (go_at_call 62;(with_reducible refine(HWI.out _).mono ?_);rintro e V9 ⟨rfl,hB9⟩);refine hK.out _ _ (by exact RHL.call hHeld hB9) (fun hHeldN hIN=>?_);clear hK K hHeld hI;have hHeld:=hHeldN;have hI:=hIN;clear hHeldN hIN;(try simp only[zs,Act.put]);refine⟨by kernel_rfl,?_⟩;clear hC hI;simp only[List.drop_succ_cons,List.drop_zero];(try simp only[zs,Act.put]);have hB4:=RHL.bel hHeld;replace g0:=qf _ hB4 x0 g0;replace g1:=qf _ hB4 x1 g1;replace x0:=qb _ hB4 x0;replace x1:=qb _ hB4 x1;have HB9:=qd (bcl HB.out hB4);clear hHeld k0 k1 k2 k3 k4 d0 hB4 hB6 hB8 hB9 HPX HFX HWI hje hrr hrc;go_wp2;go_roundw
    case rel =>
     refine⟨j+1,rfl,by omega,qd ((HB9.out.setCell (p:=⟨X.heap.size,0,none⟩) ql _).setCell (p:=⟨X.heap.size,1,none⟩) ql _),qd ?_⟩;rw[HBD.out];exact⟨qj (qA (qN x0)) (.inr (by simp)),qA (qR (qN x1)),by simpa using g0,by simpa using g1⟩
    case measure=>simp[intOf];omega
   ·obtain rfl:j=ws.length:=by omega
    have hta:(yF D (k:Int).toNat t).take ws.length=(yF D (k:Int).toNat t):=by
     rw[HX.out.2.2.2.2.2.2.2];exact List.take_of_length_le (by rw[List.length_map];exact ql)
    rw[hta]at x0 x1;have c0:=qb _ HB.out HX.out.2.2.2.1;have c1:=qb _ HB.out HX.out.2.2.2.2.1;have f0:=qf _ HB.out HX.out.2.2.2.1 HX.out.2.2.2.2.2.1;have f1:=qf _ HB.out HX.out.2.2.2.2.1 HX.out.2.2.2.2.2.2.1;have hBw:=bcl HX.out.2.1 HB.out;go_wp2;exact LoadR.ret_ct2 results15 zV zB rfl rfl c0 c1 ⟨LoadR.Below.set2 hBw (by omega),(by first|exact rfl|exact .inr ⟨by first|rfl|trivial,rfl⟩)⟩
theorem qeu{D:DayM}(hok:DayOK D)(k:Nat)(hk:k<D.cs.length):QV D k=jE D k 4:=by
 rw[qcS D hok.gs];unfold jE;refine qaA (List.Pairwise.filter _ (by decide)) fun x=>?_;rw[List.mem_filter];constructor
 ·rintro⟨_,h⟩;unfold anyB at h;obtain⟨u,hu,he⟩:=List.any_eq_true.1 h;exact List.mem_map.2 ⟨u,hu,by simpa using he⟩
 ·intro h;obtain⟨u,hu,rfl⟩:=List.mem_map.1 h;have h1:=qat hok (qy u) k hk;refine⟨List.mem_map.2 ⟨((qD D (setOf (qy u))).getD k 0+1).toNat,List.mem_range.2 (by omega),by omega⟩,?_⟩;unfold anyB;exact List.any_eq_true.2 ⟨u,hu,by simp⟩
theorem rref_ref{D:DayM}(hok:DayOK D)(k:Nat)(hk:k<D.cs.length)(hne:qO D≠[]):refN (QV D k)=qbc D k:=by
 rw[qcS D hok.gs,qep _ (by simpa using hne) (fun x hx=>by
  obtain⟨u,hu,rfl⟩:=List.mem_map.1 hx
  exact(qat hok (qy u) k hk).1)]
 unfold qbc;rw[List.countP_map,List.length_map];rfl
def NumsC(w:World)(L:List Int)(A:Int)(e:Ending)(w':World):Prop:=Below w.heap.size w w'/\∃a c,e=.returned (.tuple #[.slice a L.length c,.int .i64 A])/\L.length<=c/\qi w' 1 encI a L
theorem ZI{D:DayM}{al:Int}(h:qZ D al=0):(qw D).length≠0:=by
 have hz:=zh h;unfold qZ at h;rw[if_neg (by simpa using hz.1),if_neg (by simpa using hz.2)]at h;intro e;rw[if_pos e]at h;exact absurd h (by decide)
theorem qbC(D:DayM)(hs:DaySm D)(call:Int)(L:List Int)(hL:L=if qZ D (qF call D.cs.length)≠0 then[]else jE D call.toNat 4):(∀w,DayAt w D->Globs w->Calls qo 9 #[dv D,.int .i64 call] w (NumsC w L (qZ D (qF call D.cs.length))))/\(∀w,DayAt w D->Calls qo 10 #[dv D,.int .i64 call] w (NumsC w L (qZ D (qF call D.cs.length)))):=by
 constructor
 ·intro w h hG;refine(JK D w h hs hG call).mono ?_;rintro e w' ⟨hB,h1|h1⟩
  ·obtain⟨h0,rfl⟩:=h1;rw[if_pos h0]at hL;subst hL;exact⟨hB,none,0,rfl,ql,qi.nil _ _ _ _⟩
  ·obtain⟨h0,a,c,rfl,hc,hr⟩:=h1;rw[if_neg (by simpa using h0)]at hL;have hz:=zh h0;have hok:=qE D hz.1;have hi:=yN hz.2;have e:=qeu hok call.toNat (by omega);rw[e]at hc hr⊢;subst hL;exact⟨hB,a,c,by rw[h0],hc,hr⟩
 ·intro w h;refine(qgE D call w h hs).mono ?_;rintro e w' ⟨hB,h1|h1⟩
  ·obtain⟨h0,rfl⟩:=h1;rw[if_pos h0]at hL;subst hL;exact⟨hB,none,0,rfl,ql,qi.nil _ _ _ _⟩
  ·obtain⟨h0,a,c,rfl,hc,hr⟩:=h1;rw[if_neg (by simpa using h0)]at hL;subst hL;exact⟨hB,a,c,by rw[h0],hc,hr⟩
def qeM(w:World)(S A:Int)(e:Ending)(w':World):Prop:=e=.returned (.tuple #[.int .i64 S,.int .i64 A])/\Below w.heap.size w w'
theorem XH(D:DayM)(hs:DaySm D)(call:Int)(S:Int)(hS:S=if qZ D (qF call D.cs.length)≠0 then 0 else qbc D call.toNat):(∀w,DayAt w D->Globs w->Calls qo 12 #[dv D,.int .i64 call] w (qeM w S (qZ D (qF call D.cs.length))))/\(∀w,DayAt w D->Calls qo 13 #[dv D,.int .i64 call] w (qeM w S (qZ D (qF call D.cs.length)))):=by
 constructor
 ·intro w h hG;refine(Zb D w h hs hG call).mono ?_;rintro e w' ⟨rfl,hB⟩;refine⟨?_,hB⟩;by_cases h0:qZ D (qF call D.cs.length)=0
  ·rw[if_neg (by simpa using h0)]at hS⊢;have hz:=zh h0;have hok:=qE D hz.1;have hi:=yN hz.2;rw[rref_ref hok call.toNat (by omega) (ZX hok (ZI h0)),hS]
  ·rw[if_pos h0]at hS⊢;rw[hS]
 ·intro w h;refine(qba D call w h hs).mono ?_;rintro e w' ⟨hB,h1|h1⟩
  ·obtain⟨h0,rfl⟩:=h1;rw[if_pos h0]at hS;exact⟨by rw[hS],hB⟩
  ·obtain⟨h0,rfl⟩:=h1;rw[if_neg (by simpa using h0)]at hS;exact⟨by rw[hS,h0],hB⟩
def qeL(w:World)(p q A:Int)(e:Ending)(w':World):Prop:=e=.returned (.tuple #[.agg #[.int .i64 p,.int .i64 q],.int .i64 A])/\Below w.heap.size w w'
theorem qbD(D:DayM)(hs:DaySm D):∃p q,(∀w,DayAt w D->Globs w->Calls qo 16 #[dv D] w (qeL w p q (qZ D 0)))/\(∀w,DayAt w D->Calls qo 17 #[dv D] w (qeL w p q (qZ D 0))):=by
 by_cases h0:qZ D 0=0
 ·have hz:=zh h0;have hok:=qE D hz.1;have e1:=qew hok (ZX hok (ZI h0));refine⟨(yf (yH D)).1,(yf (yH D)).2,fun w h hG=>(YK D w h hs hG).mono ?_,fun w h=>(qaZ D w h hs).mono ?_⟩
  ·rintro e w' ⟨hB,h1|h1⟩
   ·exact absurd h0 h1.1
   ·exact⟨by rw[h1.2,e1,h0],hB⟩
  ·rintro e w' ⟨hB,h1|h1⟩
   ·exact absurd h0 h1.1
   ·exact⟨by rw[h1.2,h0],hB⟩
 ·refine⟨0,0,fun w h hG=>(YK D w h hs hG).mono ?_,fun w h=>(qaZ D w h hs).mono ?_⟩
  ·rintro e w' ⟨hB,h1|h1⟩
   ·exact⟨h1.2,hB⟩
   ·exact absurd h1.1 h0
  ·rintro e w' ⟨hB,h1|h1⟩
   ·exact⟨h1.2,hB⟩
   ·exact absurd h1.1 h0
theorem qbB(D:DayM)(hs:DaySm D)(g t:Int):∃p q,(∀w,DayAt w D->Globs w->Calls qo 14 #[dv D,.int .i64 g,.int .i64 t] w (qeL w p q (qZ D (QT D g t))))/\(∀w,DayAt w D->Calls qo 15 #[dv D,.int .i64 g,.int .i64 t] w (qeL w p q (qZ D (QT D g t)))):=by
 by_cases h0:qZ D (QT D g t)=0
 ·have hz:=zh h0;have hok:=qE D hz.1
  have hg:0<=g/\g<D.gs.length:=by
   have h1:=hz.2;unfold QT at h1;by_cases h2:qF g D.gs.length=0
   ·exact yN h2
   ·rw[if_pos h2]at h1;exact absurd h1 h2
  have e1:=qes hok (ZX hok (ZI h0)) g.toNat (by omega) t;refine⟨(yf (yF D g.toNat t)).1,(yf (yF D g.toNat t)).2,fun w h hG=>(JI D w h hs hG g t).mono ?_,fun w h=>(qaY D g t w h hs).mono ?_⟩
  ·rintro e w' ⟨hB,h1|h1⟩
   ·exact absurd h0 h1.1
   ·exact⟨by rw[h1.2,e1,h0],hB⟩
  ·rintro e w' ⟨hB,h1|h1⟩
   ·exact absurd h0 h1.1
   ·exact⟨by rw[h1.2,h0],hB⟩
 ·refine⟨0,0,fun w h hG=>(JI D w h hs hG g t).mono ?_,fun w h=>(qaY D g t w h hs).mono ?_⟩
  ·rintro e w' ⟨hB,h1|h1⟩
   ·exact⟨h1.2,hB⟩
   ·exact absurd h1.1 h0
  ·rintro e w' ⟨hB,h1|h1⟩
   ·exact⟨h1.2,hB⟩
   ·exact absurd h1.1 h0
theorem XF(D:DayM)(call g t:Int)(w:World)(hG:Globs w)(h:DayAt w D)(hcap:DayCap D) :
 Calls qo 3 #[dv D,.int .i64 call,.int .i64 g,.int .i64 t] w fun e w'=>e=.returned (.bool true):=by
 have hgr:=fun W (hB:Below w.heap.size w W)=>YQ D W (h.keep hB) hcap;have hro:=fun W (hB:Below w.heap.size w W)=>Yb W (hG.keep hB);have hdv:=dvE D;have HRO:=qd hro;clear hro;obtain⟨W,hW⟩:∃W,w.alloc (Obj.cells #[.slice D.ta D.ts.length D.tc,.slice D.ga D.gs.length D.gc,.slice D.oa D.os.length D.oc,.slice D.ha D.hs.length D.hc,.slice D.ca D.cs.length D.cc] 28)=W:=⟨_,rfl⟩;have h5:B5 W w.heap.size (.slice D.ta D.ts.length D.tc) (.slice D.ga D.gs.length D.gc) (.slice D.oa D.os.length D.oc) (.slice D.ha D.hs.length D.hc) (.slice D.ca D.cs.length D.cc):=by subst hW;exact B5.new ..
 have hBw:Below w.heap.size w W:=by subst hW;go_grown
 obtain⟨k0,k1,k2,k3,k4⟩:=h5
 cases hf:QK D with
 | true =>
   rw[hf]at hgr;rw[hdv]at hgr⊢;have HF:=qd hgr;clear hgr hdv hf h hG hcap;go_enter (sf 3 f3),ntmps3;go_upto_region 1 with fail;(try rw[hW]);clear hW;go_upto_region 2 with(go_at_call 7;(with_reducible refine(HF.out _ hBw).mono ?_);rintro e W1 ⟨rfl,hB1⟩;replace hBw:=bcl hBw hB1;clear hB1);go_wp2_with (go_at_call 8;(with_reducible refine(HRO.out _ hBw).mono ?_);rintro e W2 ⟨rfl,hB2⟩);go_ret;rfl
 | false =>
   have hs:=YG hf hcap;rw[hf]at hgr;obtain⟨L,hL⟩:∃L,L=if qZ D (qF call D.cs.length)≠0 then[]else jE D call.toNat 4:=⟨_,rfl⟩;obtain⟨S,hS⟩:∃S,S=if qZ D (qF call D.cs.length)≠0 then 0 else qbc D call.toNat:=⟨_,rfl⟩;obtain⟨hg1,hg2⟩:=qbC D hs call L hL;obtain⟨hr1,hr2⟩:=XH D hs call S hS;obtain⟨p,q,hf1,hf2⟩:=qbB D hs g t;obtain⟨p',q',hl1,hl2⟩:=qbD D hs
   have hLl:L.length<=100:=by
    rw[hL];split
    ·simp
    ·exact Nat.le_trans (List.length_filter_le _ _) (by simp)
   generalize qZ D (qF call D.cs.length)=A1 at *
   generalize qZ D (QT D g t)=A2 at *
   generalize qZ D 0=A3 at *
   unfold NumsC at hg1 hg2;unfold qeM at hr1 hr2;unfold qeL at hf1 hf2 hl1 hl2;have ng1:=fun V (hB:Below w.heap.size w V)=>hg1 V (h.keep hB) (hG.keep hB);have ng2:=fun V (hB:Below w.heap.size w V)=>hg2 V (h.keep hB);have nr1:=fun V (hB:Below w.heap.size w V)=>hr1 V (h.keep hB) (hG.keep hB);have nr2:=fun V (hB:Below w.heap.size w V)=>hr2 V (h.keep hB);have nf1:=fun V (hB:Below w.heap.size w V)=>hf1 V (h.keep hB) (hG.keep hB);have nf2:=fun V (hB:Below w.heap.size w V)=>hf2 V (h.keep hB);have nl1:=fun V (hB:Below w.heap.size w V)=>hl1 V (h.keep hB) (hG.keep hB);have nl2:=fun V (hB:Below w.heap.size w V)=>hl2 V (h.keep hB);rw[hdv]at hgr ng1 ng2 nr1 nr2 nf1 nf2 nl1 nl2⊢;have HF:=qd hgr;have G1:=qd ng1;have G2:=qd ng2;have R1:=qd nr1;have R2:=qd nr2;have F1:=qd nf1;have F2:=qd nf2;have L1:=qd nl1;have L2:=qd nl2;have HLL:=qd hLl;clear hgr ng1 ng2 nr1 nr2 nf1 nf2 nl1 nl2 hg1 hg2 hr1 hr2 hf1 hf2 hl1 hl2 hdv hf h hG hcap hs hL hS hLl;have a1:(A1 != A1)=false:=(by simp);have a2:(A2 != A2)=false:=(by simp);have a3:(A3 != A3)=false:=(by simp);have s1:(S != S)=false:=(by simp);go_enter (sf 3 f3),ntmps3;go_upto_region 1 with fail;(try rw[hW]);clear hW;go_upto_region 3 with(go_at_call 7;(with_reducible refine(HF.out _ hBw).mono ?_);rintro e W1 ⟨rfl,hB1⟩;replace k0:=qb _ hB1 k0;replace k1:=qb _ hB1 k1;replace k2:=qb _ hB1 k2;replace k3:=qb _ hB1 k3;replace k4:=qb _ hB1 k4;replace hBw:=bcl hBw hB1;clear hB1);go_upto_region 4 with(go_at_call 9;(with_reducible refine(G1.out _ hBw).mono ?_);rintro e W2 ⟨hB1,u1,c1,rfl,hc1,hu1⟩;replace k0:=qb _ hB1 k0;replace k1:=qb _ hB1 k1;replace k2:=qb _ hB1 k2;replace k3:=qb _ hB1 k3;replace k4:=qb _ hB1 k4;replace hBw:=bcl hBw hB1;clear hB1)
   go_upto_region 5 with(go_at_call 10;(with_reducible refine(G2.out _ hBw).mono ?_);rintro e W3 ⟨hB1,u2,c2,rfl,hc2,hu2⟩;replace hu1:=hu1.keep hB1;replace k0:=qb _ hB1 k0;replace k1:=qb _ hB1 k1;replace k2:=qb _ hB1 k2;replace k3:=qb _ hB1 k3;replace k4:=qb _ hB1 k4;replace hBw:=bcl hBw hB1;clear hB1);have hsn:=xC u1 u2 c1 c2 L L _ hu1 hu2 HLL.out HLL.out hc1 hc2;rw[show decide (L=L)=true by simp]at hsn;have HSN:=qd hsn;clear hsn hu1 hu2 hc1 hc2 HLL;go_upto_region 7 with(go_at_call 11;(with_reducible refine HSN.out.mono ?_);rintro e W9 ⟨rfl,hB1⟩;replace k0:=qb _ hB1 k0;replace k1:=qb _ hB1 k1;replace k2:=qb _ hB1 k2;replace k3:=qb _ hB1 k3;replace k4:=qb _ hB1 k4;replace hBw:=bcl hBw hB1;clear hB1);go_upto_region 8 with(go_at_call 12;(with_reducible refine(R1.out _ hBw).mono ?_);rintro e W4 ⟨rfl,hB1⟩;replace k0:=qb _ hB1 k0;replace k1:=qb _ hB1 k1;replace k2:=qb _ hB1 k2;replace k3:=qb _ hB1 k3;replace k4:=qb _ hB1 k4;replace hBw:=bcl hBw hB1;clear hB1);go_upto_region 9 with(go_at_call 13;(with_reducible refine(R2.out _ hBw).mono ?_);rintro e W5 ⟨rfl,hB1⟩;replace k0:=qb _ hB1 k0;replace k1:=qb _ hB1 k1;replace k2:=qb _ hB1 k2;replace k3:=qb _ hB1 k3;replace k4:=qb _ hB1 k4;replace hBw:=bcl hBw hB1;clear hB1);go_upto_region 11 with fail;go_upto_region 12 with(go_at_call 14;(with_reducible refine(F1.out _ hBw).mono ?_);rintro e W6 ⟨rfl,hB1⟩;replace k0:=qb _ hB1 k0;replace k1:=qb _ hB1 k1;replace k2:=qb _ hB1 k2;replace k3:=qb _ hB1 k3;replace k4:=qb _ hB1 k4;replace hBw:=bcl hBw hB1;clear hB1)
   have hwx:w.heap.size<W6.heap.size:=lt_of_cell k0;obtain⟨Y6,hY⟩:∃Y6,W6.alloc (Obj.cells #[.int .i64 p,.int .i64 q] 40)=Y6:=⟨_,rfl⟩;rw[hY];have hB1:Below W6.heap.size W6 Y6:=(by subst hY;go_grown);have x0:Y6.cell? ⟨W6.heap.size,0,none⟩=some (.int .i64 p):=(by subst hY;go_cell);have x1:Y6.cell? ⟨W6.heap.size,1,none⟩=some (.int .i64 q):=(by subst hY;go_cell);have x2:Y6.frozen? ⟨W6.heap.size,0,none⟩=false:=(by subst hY;go_cell);have x3:Y6.frozen? ⟨W6.heap.size,1,none⟩=false:=(by subst hY;go_cell);clear hY;replace k0:=qb _ hB1 k0;replace k1:=qb _ hB1 k1;replace k2:=qb _ hB1 k2;replace k3:=qb _ hB1 k3;replace k4:=qb _ hB1 k4;replace hBw:=bcl hBw hB1;clear hB1;go_upto_region 13 with(go_at_call 15;(with_reducible refine(F2.out _ hBw).mono ?_);rintro e W7 ⟨rfl,hB1⟩;replace x2:=qf _ hB1 x0 x2;replace x3:=qf _ hB1 x1 x3;replace x0:=qb _ hB1 x0;replace x1:=qb _ hB1 x1;replace k0:=qb _ hB1 k0;replace k1:=qb _ hB1 k1;replace k2:=qb _ hB1 k2;replace k3:=qb _ hB1 k3;replace k4:=qb _ hB1 k4;replace hBw:=bcl hBw hB1;clear hB1);have hxy:W6.heap.size<W7.heap.size:=lt_of_cell x0;have hwy:w.heap.size<W7.heap.size:=lt_of_cell k0;obtain⟨Y7,hY⟩:∃Y7,W7.alloc (Obj.cells #[.int .i64 p,.int .i64 q] 40)=Y7:=⟨_,rfl⟩;rw[hY];have hB1:Below W7.heap.size W7 Y7:=(by subst hY;go_grown);have y0:Y7.cell? ⟨W7.heap.size,0,none⟩=some (.int .i64 p):=(by subst hY;go_cell);have y1:Y7.cell? ⟨W7.heap.size,1,none⟩=some (.int .i64 q):=(by subst hY;go_cell);have y2:Y7.frozen? ⟨W7.heap.size,0,none⟩=false:=(by subst hY;go_cell);have y3:Y7.frozen? ⟨W7.heap.size,1,none⟩=false:=by subst hY;go_cell
   clear hY;replace x2:=qf _ hB1 x0 x2;replace x3:=qf _ hB1 x1 x3;replace x0:=qb _ hB1 x0;replace x1:=qb _ hB1 x1;replace k0:=qb _ hB1 k0;replace k1:=qb _ hB1 k1;replace k2:=qb _ hB1 k2;replace k3:=qb _ hB1 k3;replace k4:=qb _ hB1 k4;replace hBw:=bcl hBw hB1;clear hB1;go_upto_region 15 with fail;go_upto_region 16 with(go_at_call 16;(with_reducible refine(L1.out _ hBw).mono ?_);rintro e W8 ⟨rfl,hB1⟩;replace x2:=qf _ hB1 x0 x2;replace x3:=qf _ hB1 x1 x3;replace x0:=qb _ hB1 x0;replace x1:=qb _ hB1 x1;replace y2:=qf _ hB1 y0 y2;replace y3:=qf _ hB1 y1 y3;replace y0:=qb _ hB1 y0;replace y1:=qb _ hB1 y1;replace k0:=qb _ hB1 k0;replace k1:=qb _ hB1 k1;replace k2:=qb _ hB1 k2;replace k3:=qb _ hB1 k3;replace k4:=qb _ hB1 k4;replace hBw:=bcl hBw hB1;clear hB1);obtain⟨Z8,hZ⟩:∃Z8,(W8.setCell ⟨W6.heap.size,0,none⟩ (.int .i64 p')).setCell ⟨W6.heap.size,1,none⟩ (.int .i64 q')=Z8:=⟨_,rfl⟩;rw[hZ];replace k0:Z8.cell? ⟨w.heap.size,0,none⟩=some (.slice D.ta D.ts.length D.tc):=(by subst hZ;exact qj (qj k0 (.inl (by simp;omega))) (.inl (by simp;omega)));replace k1:Z8.cell? ⟨w.heap.size,1,none⟩=some (.slice D.ga D.gs.length D.gc):=(by subst hZ;exact qj (qj k1 (.inl (by simp;omega))) (.inl (by simp;omega)));replace k2:Z8.cell? ⟨w.heap.size,2,none⟩=some (.slice D.oa D.os.length D.oc):=(by subst hZ;exact qj (qj k2 (.inl (by simp;omega))) (.inl (by simp;omega)));replace k3:Z8.cell? ⟨w.heap.size,3,none⟩=some (.slice D.ha D.hs.length D.hc):=by subst hZ;exact qj (qj k3 (.inl (by simp;omega))) (.inl (by simp;omega))
   replace k4:Z8.cell? ⟨w.heap.size,4,none⟩=some (.slice D.ca D.cs.length D.cc):=(by subst hZ;exact qj (qj k4 (.inl (by simp;omega))) (.inl (by simp;omega)));replace y0:Z8.cell? ⟨W7.heap.size,0,none⟩=some (.int .i64 p):=(by subst hZ;exact qj (qj y0 (.inl (by simp;omega))) (.inl (by simp;omega)));replace y1:Z8.cell? ⟨W7.heap.size,1,none⟩=some (.int .i64 q):=(by subst hZ;exact qj (qj y1 (.inl (by simp;omega))) (.inl (by simp;omega)));replace y2:Z8.frozen? ⟨W7.heap.size,0,none⟩=false:=(by subst hZ;simpa using y2);replace y3:Z8.frozen? ⟨W7.heap.size,1,none⟩=false:=(by subst hZ;simpa using y3);replace x1:Z8.cell? ⟨W6.heap.size,1,none⟩=some (.int .i64 q'):=(by subst hZ;exact qA (qR (qN x1)));replace x0:Z8.cell? ⟨W6.heap.size,0,none⟩=some (.int .i64 p'):=(by subst hZ;exact qj (qA (qN x0)) (.inr (by simp)));replace x2:Z8.frozen? ⟨W6.heap.size,0,none⟩=false:=(by subst hZ;simpa using x2);replace x3:Z8.frozen? ⟨W6.heap.size,1,none⟩=false:=(by subst hZ;simpa using x3);replace hBw:Below w.heap.size w Z8:=(by subst hZ;exact(hBw.setCell (p:=⟨W6.heap.size,0,none⟩) (by simp;omega) _).setCell (p:=⟨W6.heap.size,1,none⟩) (by simp;omega) _);clear hZ;go_upto_region 17 with(go_at_call 17;(with_reducible refine(L2.out _ hBw).mono ?_);rintro e W10 ⟨rfl,hB1⟩;replace x2:=qf _ hB1 x0 x2;replace x3:=qf _ hB1 x1 x3;replace x0:=qb _ hB1 x0;replace x1:=qb _ hB1 x1;replace y2:=qf _ hB1 y0 y2;replace y3:=qf _ hB1 y1 y3;replace y0:=qb _ hB1 y0;replace y1:=qb _ hB1 y1;replace k0:=qb _ hB1 k0;replace k1:=qb _ hB1 k1;replace k2:=qb _ hB1 k2;replace k3:=qb _ hB1 k3;replace k4:=qb _ hB1 k4;replace hBw:=bcl hBw hB1;clear hB1)
   obtain⟨Z10,hZ⟩:∃Z10,(W10.setCell ⟨W7.heap.size,0,none⟩ (.int .i64 p')).setCell ⟨W7.heap.size,1,none⟩ (.int .i64 q')=Z10:=⟨_,rfl⟩;rw[hZ];replace k0:Z10.cell? ⟨w.heap.size,0,none⟩=some (.slice D.ta D.ts.length D.tc):=(by subst hZ;exact qj (qj k0 (.inl (by simp;omega))) (.inl (by simp;omega)));replace k1:Z10.cell? ⟨w.heap.size,1,none⟩=some (.slice D.ga D.gs.length D.gc):=(by subst hZ;exact qj (qj k1 (.inl (by simp;omega))) (.inl (by simp;omega)));replace k2:Z10.cell? ⟨w.heap.size,2,none⟩=some (.slice D.oa D.os.length D.oc):=(by subst hZ;exact qj (qj k2 (.inl (by simp;omega))) (.inl (by simp;omega)));replace k3:Z10.cell? ⟨w.heap.size,3,none⟩=some (.slice D.ha D.hs.length D.hc):=(by subst hZ;exact qj (qj k3 (.inl (by simp;omega))) (.inl (by simp;omega)));replace k4:Z10.cell? ⟨w.heap.size,4,none⟩=some (.slice D.ca D.cs.length D.cc):=(by subst hZ;exact qj (qj k4 (.inl (by simp;omega))) (.inl (by simp;omega)));replace x0:Z10.cell? ⟨W6.heap.size,0,none⟩=some (.int .i64 p'):=(by subst hZ;exact qj (qj x0 (.inl (by simp;omega))) (.inl (by simp;omega)));replace x1:Z10.cell? ⟨W6.heap.size,1,none⟩=some (.int .i64 q'):=(by subst hZ;exact qj (qj x1 (.inl (by simp;omega))) (.inl (by simp;omega)));replace x2:Z10.frozen? ⟨W6.heap.size,0,none⟩=false:=(by subst hZ;simpa using x2);replace x3:Z10.frozen? ⟨W6.heap.size,1,none⟩=false:=(by subst hZ;simpa using x3);replace y1:Z10.cell? ⟨W7.heap.size,1,none⟩=some (.int .i64 q'):=(by subst hZ;exact qA (qR (qN y1)));replace y0:Z10.cell? ⟨W7.heap.size,0,none⟩=some (.int .i64 p'):=by subst hZ;exact qj (qA (qN y0)) (.inr (by simp))
   replace y2:Z10.frozen? ⟨W7.heap.size,0,none⟩=false:=(by subst hZ;simpa using y2);replace y3:Z10.frozen? ⟨W7.heap.size,1,none⟩=false:=(by subst hZ;simpa using y3);replace hBw:Below w.heap.size w Z10:=(by subst hZ;exact(hBw.setCell (p:=⟨W7.heap.size,0,none⟩) (by simp;omega) _).setCell (p:=⟨W7.heap.size,1,none⟩) (by simp;omega) _);clear hZ;go_wp2_with (go_at_call 8;(with_reducible refine(HRO.out _ hBw).mono ?_);rintro e W11 ⟨rfl,hB2⟩);all_goals(go_ret;rfl)
end Go.Proofs.Tryz
