/-
  Lemmas about the program and the machine (DP to Q52), upon which the last text of this claim rests; no condition.
-/
import Derived.Test.YtjkenojgabamiaaGreatDoorDz10
set_option linter.unusedSimpArgs false
set_option linter.unusedVariables false
namespace Go.Proofs.Tryz
open Go Go.Load Go.LoadR Go.RowKit
theorem tmod_nat {x m:Int} (hx:0≤x):Int.tmod x m=x % m:=Int.tmod_eq_emod_of_nonneg hx
theorem qbt {k:Nat} (h:k≤1000):wrap64 ((k:Int)+1)=(k:Int)+1:=by unfold wrap64;omega
theorem xK {α:Type} {w:World} {k:Nat} {enc:α→List Value} {a:Option Addr} {l:List α} (h:qh w k enc a l) (e:a=none):l.length=0:=by
 by_cases hl:1≤l.length
 ·obtain ⟨b,o,h1,_⟩:=h hl
  rw [e] at h1
  cases h1
 ·omega
set_option maxHeartbeats 4000000 in
set_option maxRecDepth 100000 in
theorem qbE (D:DayM) (w:World) (h:DayAt w D) (hs:DaySm D):Calls qj 75 #[dv D] w (CopP D w):=by
 obtain ⟨W,hW⟩:∃W,(w.alloc (Obj.cells #[.slice D.ta D.ts.length D.tc,.slice D.ga D.gs.length D.gc,.slice D.oa D.os.length D.oc,.slice D.ha D.hs.length D.hc,.slice D.ca D.cs.length D.cc] 28)).alloc (Obj.cells #[.slice none 0 0,.slice none 0 0,.slice none 0 0,.slice none 0 0,.slice none 0 0] 28)=W:=⟨_,rfl⟩
 have hBW:Below w.heap.size w W:=by subst hW;go_grown
 have hsW:W.heap.size=w.heap.size+2:=by subst hW;simp
 have k0:W.cell? ⟨w.heap.size,0,none⟩=some (.slice D.ta D.ts.length D.tc):=by subst hW;go_cell
 have k1:W.cell? ⟨w.heap.size,1,none⟩=some (.slice D.ga D.gs.length D.gc):=by subst hW;go_cell
 have k2:W.cell? ⟨w.heap.size,2,none⟩=some (.slice D.oa D.os.length D.oc):=by subst hW;go_cell
 have k3:W.cell? ⟨w.heap.size,3,none⟩=some (.slice D.ha D.hs.length D.hc):=by subst hW;go_cell
 have k4:W.cell? ⟨w.heap.size,4,none⟩=some (.slice D.ca D.cs.length D.cc):=by subst hW;go_cell
 have g0:W.frozen? ⟨w.heap.size,0,none⟩=false:=by subst hW;go_cell
 have g1:W.frozen? ⟨w.heap.size,1,none⟩=false:=by subst hW;go_cell
 have g2:W.frozen? ⟨w.heap.size,2,none⟩=false:=by subst hW;go_cell
 have g3:W.frozen? ⟨w.heap.size,3,none⟩=false:=by subst hW;go_cell
 have g4:W.frozen? ⟨w.heap.size,4,none⟩=false:=by subst hW;go_cell
 have hR:∀i,i < 5→∃v,W.cell? ⟨w.heap.size+1,i,none⟩=some v∧W.frozen? ⟨w.heap.size+1,i,none⟩=false:=fun i hi=>by
  obtain rfl | rfl | rfl | rfl | rfl:i=0∨i=1∨i=2∨i=3∨i=4:=by omega
  all_goals exact ⟨.slice none 0 0,by subst hW;go_cell,by subst hW;go_cell⟩
 have HR:=Lib.hid hR
 have HD:=Lib.hid (And.intro h hs)
 clear h hs hR
 have hdv:dv D=.agg #[.slice D.ta D.ts.length D.tc,.slice D.ga D.gs.length D.gc,.slice D.oa D.os.length D.oc,.slice D.ha D.hs.length D.hc,.slice D.ca D.cs.length D.cc]:=rfl
 rw [hdv]
 clear hdv
 ·go_enter (sf 75 f75),ntmps75
  go_upto_region 1 with fail
  try rw [hW]
  have hS:RH5 W ⟨w.heap.size,0,none⟩ ⟨w.heap.size,1,none⟩ ⟨w.heap.size,2,none⟩ ⟨w.heap.size,3,none⟩ ⟨w.heap.size,4,none⟩ (.slice D.ta D.ts.length D.tc) (.slice D.ga D.gs.length D.gc) (.slice D.oa D.os.length D.oc) (.slice D.ha D.hs.length D.hc) (.slice D.ca D.cs.length D.cc) W:=⟨k0,k1,k2,k3,k4,Below.refl _ _⟩
  have HG:=Lib.hid (And.intro k0 (And.intro k1 (And.intro k2 (And.intro k3 (And.intro k4 (And.intro g0 (And.intro g1 (And.intro g2 (And.intro g3 g4)))))))))
  clear hW k0 k1 k2 k3 k4 g0 g1 g2 g3 g4
  refine Go.RouteHead.wp_region_head (n:=13) (S:=RH5 W ⟨w.heap.size,0,none⟩ ⟨w.heap.size,1,none⟩ ⟨w.heap.size,2,none⟩ ⟨w.heap.size,3,none⟩ ⟨w.heap.size,4,none⟩ (.slice D.ta D.ts.length D.tc) (.slice D.ga D.gs.length D.gc) (.slice D.oa D.os.length D.oc) (.slice D.ha D.hs.length D.hc) (.slice D.ca D.cs.length D.cc)) _ (by kernel_rfl) (by kernel_rfl) (by kernel_rfl) (by kernel_rfl) (by kernel_rfl) rfl (by exact RHL.drew hS) (fun hHeld hC hI=>?_)
  (refine Go.RouteHead.xk 0 hC hI (fun hIn=>?_);replace hI:=hIn;clear hIn;try simp only [zs,Act.put])
  (refine Go.RouteHead.xk 1 hC hI (fun hIn=>?_);replace hI:=hIn;clear hIn;try simp only [zs,Act.put])
  (refine Go.RouteHead.xk 3 hC hI (fun hIn=>?_);replace hI:=hIn;clear hIn;try simp only [zs,Act.put])
  (refine Go.RouteHead.xk 4 hC hI (fun hIn=>?_);replace hI:=hIn;clear hIn;try simp only [zs,Act.put])
  (refine Go.RouteHead.xk 6 hC hI (fun hIn=>?_);replace hI:=hIn;clear hIn;try simp only [zs,Act.put])
  (refine Go.RouteHead.xk 7 hC hI (fun hIn=>?_);replace hI:=hIn;clear hIn;try simp only [zs,Act.put])
  (refine Go.RouteHead.xk 9 hC hI (fun hIn=>?_);replace hI:=hIn;clear hIn;try simp only [zs,Act.put])
  (refine Go.RouteHead.xk 10 hC hI (fun hIn=>?_);replace hI:=hIn;clear hIn;try simp only [zs,Act.put])
  have hD1:=HD.out.1.keep (Below.call hBW (RHL.bel hHeld) (by omega))
  have hcl1:=cloneStr D.ts D.ta D.tc (by have:=HD.out.2.ts.1;omega) (xK hD1.ts) _ hD1.ts
  clear hD1
  refine Go.RouteHead.wpHead_one (i:=2) hI (by kernel_rfl) (by kernel_rfl) rfl (fun K hK=>?_);go_simp;go_wp2_with (go_at_call 103;(with_reducible refine hcl1.mono ?_);rintro e X1 ⟨a1,c1,rfl,hc1,ho1,hn1,hB1⟩);refine hK.out _ _ (by exact RHL.call hHeld hB1) (fun hHeldN hIN=>?_);clear hK K hHeld hI;have hHeld:=hHeldN;have hI:=hIN;clear hHeldN hIN;try simp only [zs,Act.put]
  have hb1:=Lib.hid (zN.lt ho1 (fun x=>⟨_,rfl⟩))
  (refine Go.RouteHead.xk 12 hC hI (fun hIn=>?_);replace hI:=hIn;clear hIn;try simp only [zs,Act.put])
  clear hcl1
  have hD2:=HD.out.1.keep (Below.call hBW (RHL.bel hHeld) (by omega))
  have hcl2:=cloneGrp D.gs D.ga D.gc (by have:=HD.out.2.gs.1;omega) (xK hD2.gs) _ hD2.gs
  clear hD2
  refine Go.RouteHead.wpHead_one (i:=5) hI (by kernel_rfl) (by kernel_rfl) rfl (fun K hK=>?_);go_simp;go_wp2_with (go_at_call 104;(with_reducible refine hcl2.mono ?_);rintro e X2 ⟨a2,c2,rfl,hc2,ho2,hn2,hB2⟩);refine hK.out _ _ (by exact RHL.call hHeld hB2) (fun hHeldN hIN=>?_);clear hK K hHeld hI;have hHeld:=hHeldN;have hI:=hIN;clear hHeldN hIN;try simp only [zs,Act.put]
  have hb2:=Lib.hid (zN.lt ho2 (fun x=>⟨_,rfl⟩))
  replace ho1:=ho1.keep hB2
  clear hcl2
  have hD3:=HD.out.1.keep (Below.call hBW (RHL.bel hHeld) (by omega))
  have hcl3:=cloneHld D.hs D.ha D.hc (by have:=HD.out.2.hs.1;omega) (xK hD3.hs) _ hD3.hs
  clear hD3
  refine Go.RouteHead.wpHead_one (i:=8) hI (by kernel_rfl) (by kernel_rfl) rfl (fun K hK=>?_);go_simp;go_wp2_with (go_at_call 105;(with_reducible refine hcl3.mono ?_);rintro e X3 ⟨a3,c3,rfl,hc3,ho3,hn3,hB3⟩);refine hK.out _ _ (by exact RHL.call hHeld hB3) (fun hHeldN hIN=>?_);clear hK K hHeld hI;have hHeld:=hHeldN;have hI:=hIN;clear hHeldN hIN;try simp only [zs,Act.put]
  have hb3:=Lib.hid (zN.lt ho3 (fun x=>⟨_,rfl⟩))
  replace ho1:=ho1.keep hB3
  replace ho2:=ho2.keep hB3
  clear hcl3
  have hD4:=HD.out.1.keep (Below.call hBW (RHL.bel hHeld) (by omega))
  have hcl4:=cloneCal D.cs D.ca D.cc (by have:=HD.out.2.cs.1;omega) (xK hD4.cs) _ hD4.cs
  clear hD4
  refine Go.RouteHead.wpHead_one (i:=11) hI (by kernel_rfl) (by kernel_rfl) rfl (fun K hK=>?_);go_simp;go_wp2_with (go_at_call 106;(with_reducible refine hcl4.mono ?_);rintro e X4 ⟨a4,c4,rfl,hc4,ho4,hn4,hB4⟩);refine hK.out _ _ (by exact RHL.call hHeld hB4) (fun hHeldN hIN=>?_);clear hK K hHeld hI;have hHeld:=hHeldN;have hI:=hIN;clear hHeldN hIN;try simp only [zs,Act.put]
  have hb4:=Lib.hid (zN.lt ho4 (fun x=>⟨_,rfl⟩))
  replace ho1:=ho1.keep hB4
  replace ho2:=ho2.keep hB4
  replace ho3:=ho3.keep hB4
  clear hcl4
  refine ⟨by kernel_rfl,?_⟩;clear hC hI;simp only [List.drop_succ_cons,List.drop_zero];try simp only [zs,Act.put]
  have hBX:=RHL.bel hHeld
  have hzX:=hBX.size
  obtain ⟨j0,j1,j2,j3,j4,-⟩:=hHeld
  obtain ⟨k0,k1,k2,k3,k4,g0,g1,g2,g3,g4⟩:=HG.out
  replace g0:=qd _ hBX k0 g0
  replace g1:=qd _ hBX k1 g1
  replace g2:=qd _ hBX k2 g2
  replace g3:=qd _ hBX k3 g3
  replace g4:=qd _ hBX k4 g4
  clear k0 k1 k2 k3 k4
  go_upto_region 2 with fail
  obtain ⟨Y,hY⟩:∃Y,(((X4.setCell ⟨w.heap.size,0,none⟩ (.slice a1 D.ts.length c1)).setCell ⟨w.heap.size,1,none⟩ (.slice a2 D.gs.length c2)).setCell ⟨w.heap.size,3,none⟩ (.slice a3 D.hs.length c3)).setCell ⟨w.heap.size,4,none⟩ (.slice a4 D.cs.length c4)=Y:=⟨_,rfl⟩
  have hmY:Mod (fun j=>j=w.heap.size) X4 Y:=by subst hY;exact ((((Mod.refl (fun j=>j=w.heap.size) X4).put ⟨w.heap.size,0,none⟩ _ rfl).put ⟨w.heap.size,1,none⟩ _ rfl).put ⟨w.heap.size,3,none⟩ _ rfl).put ⟨w.heap.size,4,none⟩ _ rfl
  have y0:Y.cell? ⟨w.heap.size,0,none⟩=some (.slice a1 D.ts.length c1):=by subst hY;go_cell
  have y1:Y.cell? ⟨w.heap.size,1,none⟩=some (.slice a2 D.gs.length c2):=by subst hY;go_cell
  have y2:Y.cell? ⟨w.heap.size,2,none⟩=some (.slice D.oa D.os.length D.oc):=by subst hY;go_cell
  have y3:Y.cell? ⟨w.heap.size,3,none⟩=some (.slice a3 D.hs.length c3):=by subst hY;go_cell
  have y4:Y.cell? ⟨w.heap.size,4,none⟩=some (.slice a4 D.cs.length c4):=by subst hY;go_cell
  replace g2:Y.frozen? ⟨w.heap.size,2,none⟩=false:=by subst hY;simpa using g2
  rw [hY]
  clear hY j0 j1 j2 j3 j4 g0 g1 g3 g4
  have hzY:=hmY.size
  have hBY:Below w.heap.size w Y:=(Below.call hBW hBX (by omega)).trans (hmY.keep (by omega) (fun j e=>by omega))
  have hd9:W.drew.heap.size=W.heap.size:=rfl
  have hzA:w.heap.size+2≤X1.heap.size∧X1.heap.size≤X2.heap.size∧X2.heap.size≤X3.heap.size:=⟨by have:=hB1.size;omega,hB2.size,hB3.size⟩
  have h4a:∀p,a4=some p→X3.heap.size≤p.block:=fun p hp=>ho4.1 p hp
  replace ho1:=(ho1.from (B':=w.heap.size+2) (by omega)).mod hmY (fun p hp e=>by have:=ho1.1 p hp;omega)
  replace ho2:=(ho2.from (B':=w.heap.size+2) (by omega)).mod hmY (fun p hp e=>by have:=ho2.1 p hp;omega)
  replace ho3:=(ho3.from (B':=w.heap.size+2) (by omega)).mod hmY (fun p hp e=>by have:=ho3.1 p hp;omega)
  replace ho4:=(ho4.from (B':=w.heap.size+2) (by omega)).mod hmY (fun p hp e=>by have:=ho4.1 p hp;omega)
  have hD5:=HD.out.1.keep hBY
  have hcl5:=cloneOrd D.os D.oa D.oc (by have:=HD.out.2.os.1;omega) (xK hD5.os) _ hD5.os
  clear hD5
  go_upto_region 3 with (go_at_call 107;(with_reducible refine hcl5.mono ?_);rintro e X5 ⟨a5,c5,rfl,hc5,ho5,hn5,hB5⟩;have g2:=qd _ hB5 y2 g2;have y0:=qb _ hB5 y0;have y1:=qb _ hB5 y1;have y2:=qb _ hB5 y2;have y3:=qb _ hB5 y3;have y4:=qb _ hB5 y4)
  obtain ⟨Z,hZ⟩:∃Z,X5.setCell ⟨w.heap.size,2,none⟩ (.slice a5 D.os.length c5)=Z:=⟨_,rfl⟩
  have hmZ:Mod (fun j=>j=w.heap.size) X5 Z:=by subst hZ;exact (Mod.refl (fun j=>j=w.heap.size) X5).put ⟨w.heap.size,2,none⟩ _ rfl
  have hYZ:Mod (fun j=>j=w.heap.size) Y Z:=(Mod.below hB5).trans hmZ
  have z0:Z.cell? ⟨w.heap.size,0,none⟩=some (.slice a1 D.ts.length c1):=by subst hZ;go_cell
  have z1:Z.cell? ⟨w.heap.size,1,none⟩=some (.slice a2 D.gs.length c2):=by subst hZ;go_cell
  have z2:Z.cell? ⟨w.heap.size,2,none⟩=some (.slice a5 D.os.length c5):=by subst hZ;exact qp (qz y2)
  have z3:Z.cell? ⟨w.heap.size,3,none⟩=some (.slice a3 D.hs.length c3):=by subst hZ;go_cell
  have z4:Z.cell? ⟨w.heap.size,4,none⟩=some (.slice a4 D.cs.length c4):=by subst hZ;go_cell
  rw [hZ]
  clear hZ y0 y1 y2 y3 y4 g2 hcl5
  have hz5:=hB5.size
  have hC:CopS D X3.heap.size Y.heap.size a1 c1 a2 c2 a3 c3 a4 c4 a5 c5 w Z:=by
   refine ⟨hBY.trans ((hYZ).keep (by omega) (fun j e=>by omega)),z0,z1,z2,z3,z4,?_,by omega,by have:=hB4.size;omega,?_,fun hl p hp=>by have:=hb1.out hl p hp;omega,?_,fun hl p hp=>by have:=hb2.out hl p hp;omega,?_,fun hl p hp=>by have:=hb3.out hl p hp;omega,?_,fun hl p hp=>⟨h4a p hp,by have:=hb4.out hl p hp;omega⟩⟩
   ·intro i hi
    obtain ⟨v,h1,h2⟩:=HR.out i hi
    have hm:=((Mod.below hBX).trans hmY).trans hYZ
    exact ⟨v,hm.cell h1 (by simp only;omega),(hm.frozen h1 (by simp only;omega)).trans h2⟩
   ·exact ho1.mod hYZ (fun p hp e=>by have:=ho1.1 p hp;omega)
   ·exact ho2.mod hYZ (fun p hp e=>by have:=ho2.1 p hp;omega)
   ·exact ho3.mod hYZ (fun p hp e=>by have:=ho3.1 p hp;omega)
   ·exact ho4.mod hYZ (fun p hp e=>by have:=ho4.1 p hp;omega)
  have hO5:zN Y.heap.size Z 3 Zo a5 D.os:=ho5.mod hmZ (fun p hp e=>by have:=ho5.1 p hp;omega)
  have hb5:=Lib.hid (zN.lt ho5 (fun x=>⟨_,rfl⟩))
  have HC:=Lib.hid (And.intro hC hO5)
  have HB:=Lib.hid (And.intro hc1 (And.intro hc2 (And.intro hc3 hc4)))
  have hNZ:=hmZ.size
  clear ho1 ho2 ho3 ho4 ho5 hC hO5 z0 z1 z3 z4 hYZ hBX hzA hmY hb1 hb2 hb3 hb4 h4a hc1 hc2 hc3 hc4 hn1 hn2 hn3 hn4 hB1 hB2 hB3 hB4
  go_wp2
  go_loopw [30] (fun i wr=>∃(k:Nat) (os':List OrdM),i=.int .i64 k∧k≤D.os.length∧Hid (CopS D X3.heap.size Y.heap.size a1 c1 a2 c2 a3 c3 a4 c4 a5 c5 w wr)∧Hid (zN Y.heap.size wr 3 Zo a5 os')∧Hid (qbx X5.heap.size k D.os wr os')∧X5.heap.size≤wr.heap.size) (fun i _=>D.os.length - (intOf i).toNat)
  case atStart=>exact ⟨0,D.os,rfl,Nat.zero_le _,Lib.hid HC.out.1,Lib.hid HC.out.2,Lib.hid (qbx.zero _ _ _),hNZ⟩
  case round =>
   clear HC z2
   obtain ⟨k,os',rfl,hk,HC,HO,HS,hzw⟩:=hrel
   by_cases hlt:k < D.os.length
   ·obtain ⟨o,ho⟩:∃o,D.os[k]? = some o:=⟨D.os[k],by simp [hlt]⟩
    have hl':=HS.out.1
    obtain ⟨o',ho'⟩:∃o',os'[k]? = some o':=⟨os'[k]'(by omega),List.getElem?_eq_getElem _⟩
    have hoo:=HS.out.2 k o' o ho' ho
    rw [if_neg (by omega)] at hoo
    subst hoo
    obtain ⟨g5,rfl,hc⟩:=HO.out.2 (by omega)
    have d0:=(hc k o' ho' 0 _ rfl).1
    have d1:=(hc k o' ho' 1 _ rfl).1
    have d2:=(hc k o' ho' 2 _ rfl).1
    have e2:=(hc k o' ho' 2 _ rfl).2
    simp only [Nat.add_zero] at d0
    have hk0:(0:Int)≤(k:Int):=Int.natCast_nonneg k
    have hk1:(k:Int) < (D.os.length:Int):=by omega
    have hkc:(k:Int)≤(c5:Int):=by omega
    have y2:=HC.out.y2
    have HQ:=Lib.hid (And.intro ho (And.intro ho' hc))
    clear ho ho' hc
    go_upto_region 6 with fail
    obtain ⟨V,hV⟩:∃V,wr.alloc (Obj.cells #[.int .i64 o'.fr,.int .i64 o'.toT,.slice o'.a o'.ws.length o'.c] 64)=V:=⟨_,rfl⟩
    have hBV:Below wr.heap.size wr V:=by subst hV;go_grown
    have hzV:V.heap.size=wr.heap.size+1:=by subst hV;simp
    have v2:V.cell? ⟨wr.heap.size,2,none⟩=some (.slice o'.a o'.ws.length o'.c):=by subst hV;go_cell
    have hmo:=List.mem_of_getElem? HQ.out.1
    have hDV:=HD.out.1.keep (Below.call HC.out.bel hBV (by have:=HC.out.bel.size;omega))
    have hcw:=fun X (hB:Below V.heap.size V X)=>cloneWay o'.ws o'.a o'.c (by have:=(HD.out.2.ws o' hmo).1;omega) (xK (hDV.ws o' hmo)) X ((hDV.ws o' hmo).keep hB)
    have HCW:=Lib.hid hcw
    have hS6:RH2 V ⟨w.heap.size,2,none⟩ ⟨wr.heap.size,2,none⟩ (.slice (some ⟨g5,0,none⟩) D.os.length c5) (.slice o'.a o'.ws.length o'.c) V:=⟨qb _ hBV y2,v2,Below.refl _ _⟩
    rw [hV]
    clear hV hcw hDV hmo
    refine Go.RouteHead.wp_region_head (n:=8) (S:=RH2 V ⟨w.heap.size,2,none⟩ ⟨wr.heap.size,2,none⟩ (.slice (some ⟨g5,0,none⟩) D.os.length c5) (.slice o'.a o'.ws.length o'.c)) _ (by kernel_rfl) (by kernel_rfl) (by kernel_rfl) (by kernel_rfl) (by kernel_rfl) rfl (by exact RHL.drew hS6) (fun hHeld hC hI=>?_)
    (refine Go.RouteHead.xk 0 hC hI (fun hIn=>?_);replace hI:=hIn;clear hIn;try simp only [zs,Act.put])
    (refine Go.RouteHead.xk 1 hC hI (fun hIn=>?_);replace hI:=hIn;clear hIn;try simp only [zs,Act.put])
    (refine Go.RouteHead.xk 2 hC hI (fun hIn=>?_);replace hI:=hIn;clear hIn;try simp only [zs,Act.put])
    (refine Go.RouteHead.xk 3 hC hI (fun hIn=>?_);replace hI:=hIn;clear hIn;try simp only [zs,Act.put])
    (refine Go.RouteHead.xk 4 hC hI (fun hIn=>?_);replace hI:=hIn;clear hIn;try simp only [zs,Act.put])
    have hcl6:=HCW.out _ (RHL.bel hHeld)
    refine Go.RouteHead.wpHead_one (i:=5) hI (by kernel_rfl) (by kernel_rfl) rfl (fun K hK=>?_);go_simp;go_wp2_with (go_at_call 108;(with_reducible refine hcl6.mono ?_);rintro e X6 ⟨a6,c6,rfl,hc6,ho6,hn6,hB6⟩);refine hK.out _ _ (by exact RHL.call hHeld hB6) (fun hHeldN hIN=>?_);clear hK K hHeld hI;have hHeld:=hHeldN;have hI:=hIN;clear hHeldN hIN;try simp only [zs,Act.put]
    (refine Go.RouteHead.xk 6 hC hI (fun hIn=>?_);replace hI:=hIn;clear hIn;try simp only [zs,Act.put])
    (refine Go.RouteHead.xk 7 hC hI (fun hIn=>?_);replace hI:=hIn;clear hIn;try simp only [zs,Act.put])
    refine ⟨by kernel_rfl,?_⟩;clear hC hI;simp only [List.drop_succ_cons,List.drop_zero];try simp only [zs,Act.put]
    have hBX6:Below wr.heap.size wr X6:=Below.call hBV (RHL.bel hHeld) (by omega)
    have hzX6:=(RHL.bel hHeld).size
    have v26:X6.cell? ⟨wr.heap.size,2,none⟩=some (.slice o'.a o'.ws.length o'.c):=hHeld.2.1
    have d26:=qb _ hBX6 d2
    have e26:=qd _ hBX6 d2 e2
    have hg5:=lt_of_cell d2
    simp only at hg5
    have hng:g5≠wr.heap.size:=by omega
    clear d0 d1 d2 e2 hHeld v2 hS6 y2
    go_upto_region 7 with fail
    obtain ⟨Z6,hZ6⟩:∃Z6,X6.setCell ⟨g5,k * 3+2,none⟩ (.slice a6 o'.ws.length c6)=Z6:=⟨_,rfl⟩
    have hm6:Mod (fun j=>j=g5) X6 Z6:=by subst hZ6;exact (Mod.refl (fun j=>j=g5) X6).put ⟨g5,k * 3+2,none⟩ _ rfl
    have z26:Z6.cell? ⟨g5,k * 3+2,none⟩=some (.slice a6 o'.ws.length c6):=by subst hZ6;exact qp (qz d26)
    have f26:Z6.frozen? ⟨g5,k * 3+2,none⟩=false:=by subst hZ6;simpa using e26
    have hg5Y:=HO.out.1 _ rfl
    have hYlt:=HC.out.lt
    simp only at hg5Y
    have y26:=hm6.cell (qb _ hBX6 HC.out.y2) (by simp only;omega)
    have v27:=hm6.cell v26 (by simp only;omega)
    have hzZ6:=hm6.size
    have hOZ:∀ws2:List WayM,ws2.length=o'.ws.length→zN Y.heap.size Z6 3 Zo (some ⟨g5,0,none⟩) (os'.set k ⟨o'.fr,o'.toT,ws2,a6,c6⟩):=fun ws2 hl2=>by
     subst hZ6
     have h3:=zN.set3 (x:=⟨o'.fr,o'.toT,ws2,a6,c6⟩) (HO.out.keep hBX6) HQ.out.2.1 rfl rfl
     simp only [hl2] at h3
     exact h3
    have HOZ:=Lib.hid hOZ
    rw [hZ6]
    clear hZ6 v26 d26 e26 hOZ
    have o6:zN X6.heap.size Z6 1 xY a6 o'.ws→True:=fun _=>trivial
    clear o6
    have hoW:zN V.heap.size X6 1 xY a6 o'.ws:=ho6.from (by first | exact Nat.le_refl _ | omega)
    have hO6:zN V.heap.size Z6 1 xY a6 o'.ws:=hoW.mod hm6 (fun p hp e=>by have:=hoW.1 p hp;omega)
    have H6:=Lib.hid (And.intro hO6 (And.intro hm6 hn6))
    clear hoW hO6
    go_wp2
    obtain ⟨WR,hWR⟩:∃WR,WR=wr:=⟨_,rfl⟩
    subst hWR
    go_loopw [46] (fun i wx=>∃(j:Nat) (ws':List WayM),i=.int .i64 j∧j≤o'.ws.length∧Hid (Mod (fun b=>∃p,a6=some p∧p.block=b) Z6 wx)∧Hid (zN V.heap.size wx 1 xY a6 ws')∧Hid (InS Z6.heap.size j o'.ws wx ws')) (fun i _=>o'.ws.length - (intOf i).toNat)
    case atStart=>exact ⟨0,o'.ws,rfl,Nat.zero_le _,Lib.hid (Mod.refl _ _),Lib.hid H6.out.1,Lib.hid (InS.zero _ _ _)⟩
    case round =>
     obtain ⟨j,ws',rfl,hj,HM,HW,HI⟩:=hrel
     have hzi:=HM.out.size
     by_cases hjl:j < o'.ws.length
     ·obtain ⟨x,hx⟩:∃x,o'.ws[j]? = some x:=⟨o'.ws[j],List.getElem?_eq_getElem hjl⟩
      have hmo:=List.mem_of_getElem? HQ.out.1
      have hBx:Below w.heap.size w wr:=((Below.call HC.out.bel hBX6 (by have:=HC.out.bel.size;omega)).trans (H6.out.2.1.keep (by omega) (fun j e=>by omega))).trans (HM.out.keep (by omega) (fun j ⟨p,hp,e⟩=>by have:=HW.out.1 p hp;omega))
      have hD9:=HD.out.1.keep hBx
      obtain ⟨bx,ox,ea,hcx⟩:=hD9.ws o' hmo (by omega)
      have ex:=hcx j x hx 0 _ rfl
      simp only [Nat.mul_one,Nat.add_zero] at ex
      have hxm:=List.mem_of_getElem? hx
      have HCX:=Lib.hid (fun X (hB:Below wr.heap.size wr X)=>Xi x.l x.a x.c (by have:=(HD.out.2.ls o' hmo x hxm).1;omega) (xK (hD9.ls o' hmo x hxm)) X ((hD9.ls o' hmo x hxm).keep hB))
      have hzw2:=HI.out.1
      obtain ⟨g6,rfl,hcw⟩:=HW.out.2 (by omega)
      obtain ⟨xo,hxo⟩:∃xo,ws'[j]? = some xo:=⟨ws'[j]'(by omega),List.getElem?_eq_getElem _⟩
      have hw0:=hcw j xo hxo 0 _ rfl
      simp only [Nat.mul_one,Nat.add_zero] at hw0
      have hg6V:=HW.out.1 _ rfl
      have hg6Z:=H6.out.1.lt (fun x=>⟨_,rfl⟩) (by omega) _ rfl
      simp only at hg6V hg6Z
      have yx:=HM.out.cell y26 (fun ⟨p,hp,e⟩=>by cases hp;simp only at e;omega)
      have zx:=HM.out.cell z26 (fun ⟨p,hp,e⟩=>by cases hp;simp only at e;omega)
      have hSx:RH2 wr ⟨w.heap.size,2,none⟩ ⟨g5,k * 3+2,none⟩ (.slice (some ⟨g5,0,none⟩) D.os.length c5) (.slice (some ⟨g6,0,none⟩) o'.ws.length c6) wr:=⟨yx,zx,Below.refl _ _⟩
      have hj0:(0:Int)≤(j:Int):=Int.natCast_nonneg j
      have hji:(j:Int) < (o'.ws.length:Int):=by omega
      have hjc:(j:Int)≤(o'.c:Int):=by have:=(HD.out.2.ws o' hmo).2;omega
      have hj6:(j:Int)≤(c6:Int):=by omega
      have HX:=Lib.hid hx
      have HW0:=Lib.hid hw0
      rw [ea]
      clear hBx hD9 hcx hxm hcw hxo hw0 hx hmo yx zx
      go_upto_region 10 with fail
      refine Go.RouteHead.wp_region_head (n:=10) (S:=RH2 wr ⟨w.heap.size,2,none⟩ ⟨g5,k * 3+2,none⟩ (.slice (some ⟨g5,0,none⟩) D.os.length c5) (.slice (some ⟨g6,0,none⟩) o'.ws.length c6)) _ (by kernel_rfl) (by kernel_rfl) (by kernel_rfl) (by kernel_rfl) (by kernel_rfl) rfl (by exact RHL.drew hSx) (fun hHeld hC hI=>?_)
      (refine Go.RouteHead.xk 0 hC hI (fun hIn=>?_);replace hI:=hIn;clear hIn;try simp only [zs,Act.put])
      (refine Go.RouteHead.xk 1 hC hI (fun hIn=>?_);replace hI:=hIn;clear hIn;try simp only [zs,Act.put])
      (refine Go.RouteHead.xk 2 hC hI (fun hIn=>?_);replace hI:=hIn;clear hIn;try simp only [zs,Act.put])
      (refine Go.RouteHead.xk 3 hC hI (fun hIn=>?_);replace hI:=hIn;clear hIn;try simp only [zs,Act.put])
      (refine Go.RouteHead.xk 4 hC hI (fun hIn=>?_);replace hI:=hIn;clear hIn;try simp only [zs,Act.put])
      (refine Go.RouteHead.xk 5 hC hI (fun hIn=>?_);replace hI:=hIn;clear hIn;try simp only [zs,Act.put])
      (refine Go.RouteHead.xk 6 hC hI (fun hIn=>?_);replace hI:=hIn;clear hIn;try simp only [zs,Act.put])
      (refine Go.RouteHead.xk 7 hC hI (fun hIn=>?_);replace hI:=hIn;clear hIn;try simp only [zs,Act.put])
      have hcl9:=HCX.out _ (RHL.bel hHeld)
      refine Go.RouteHead.wpHead_one (i:=8) hI (by kernel_rfl) (by kernel_rfl) rfl (fun K hK=>?_);go_simp;go_wp2_with (go_at_call 73;(with_reducible refine hcl9.mono ?_);rintro e X9 ⟨a9,c9,rfl,hc9,ho9,hn9,hB9⟩);refine hK.out _ _ (by exact RHL.call hHeld hB9) (fun hHeldN hIN=>?_);clear hK K hHeld hI;have hHeld:=hHeldN;have hI:=hIN;clear hHeldN hIN;try simp only [zs,Act.put]
      (refine Go.RouteHead.xk 9 hC hI (fun hIn=>?_);replace hI:=hIn;clear hIn;try simp only [zs,Act.put])
      refine ⟨by kernel_rfl,?_⟩;clear hC hI;simp only [List.drop_succ_cons,List.drop_zero];try simp only [zs,Act.put]
      have hBX9:Below wr.heap.size wr X9:=RHL.bel hHeld
      have w9:=qb _ hBX9 HW0.out.1
      have wf9:=qd _ hBX9 HW0.out.1 HW0.out.2
      have hoI:zN wr.heap.size X9 1 encI a9 x.l:=ho9.from (by first | exact Nat.le_refl _ | omega)
      have HE:=Lib.hid (And.intro hBX9 (And.intro hoI hc9))
      have hwj:=Lib.hid (qbt (k:=j) (by have:=(HD.out.2.ws o' (List.mem_of_getElem? HQ.out.1)).1;omega))
      clear hcl9 hHeld hoI ho9 hSx hBX9 ex hn9 hc9
      go_wp2
      go_roundw
      case rel =>
       have hm9:Mod (fun b=>b=g6) X9 (X9.setCell ⟨g6,j,none⟩ (.slice a9 x.l.length c9)):=(Mod.refl (fun b=>b=g6) X9).put ⟨g6,j,none⟩ _ rfl
       have hm':Mod (fun b=>∃p,some (⟨g6,0,none⟩:Addr)=some p∧p.block=b) wr (X9.setCell ⟨g6,j,none⟩ (.slice a9 x.l.length c9)):=(Mod.below HE.out.1).trans (hm9.mono (fun b e=>⟨_,rfl,e.symm⟩))
       have hW9:zN V.heap.size (X9.setCell ⟨g6,j,none⟩ (.slice a9 x.l.length c9)) 1 xY (some ⟨g6,0,none⟩) (ws'.set j ⟨x.l,a9,c9⟩):=zN.set1 (HW.out.keep HE.out.1) (by omega) (fun _=>rfl) rfl
       refine ⟨j+1,ws'.set j ⟨x.l,a9,c9⟩,by rw [hwj.out];rfl,by omega,Lib.hid (HM.out.trans hm'),Lib.hid hW9,Lib.hid (((HI.out.mod hm' (fun b ⟨p,hp,e⟩=>by cases hp;simp only at e;omega))).step HX.out ⟨rfl,HE.out.2.2,?_⟩)⟩
       exact (HE.out.2.1.from (by omega)).mod hm9 (fun p hp e=>by have:=HE.out.2.1.1 p hp;omega)
      case measure=>rw [hwj.out];simp [intOf];omega
     ·obtain rfl:j=o'.ws.length:=by omega
      obtain ⟨X,hX⟩:∃X,X=wr:=⟨_,rfl⟩
      subst hX
      have hm0:Mod (fun b=>b=g5∨V.heap.size≤b) WR X:=(Mod.below hBX6).trans ((H6.out.2.1.mono (fun b e=>.inl e)).trans (HM.out.mono (fun b ⟨p,hp,e⟩=>.inr (by have:=HW.out.1 p hp;omega))))
      have HM0:=Lib.hid hm0
      have hl2:=HI.out.1
      have hwk:=Lib.hid (qbt (k:=k) (by have:=HD.out.2.os.1;omega))
      clear hm0
      go_wp2
      go_roundw
      case rel =>
       have hm0:=HM0.out
       have hmW:Mod (fun b=>b=g5) WR X:=hm0.old (fun b hb e=>by rcases e with e | e;exact e;omega)
       have hg5X:g5 < X5.heap.size:=hb5.out (by omega) _ rfl
       have hoX:zN Y.heap.size X 3 Zo (some ⟨g5,0,none⟩) (os'.set k ⟨o'.fr,o'.toT,ws',a6,c6⟩):=(HOZ.out ws' hl2).mod HM.out (fun p hp ⟨q,hq,e⟩=>by cases hp;have:=HW.out.1 q hq;simp only at e;omega)
       refine ⟨k+1,os'.set k ⟨o'.fr,o'.toT,ws',a6,c6⟩,by rw [hwk.out];rfl,by omega,Lib.hid (HC.out.mod hm0 (fun b e=>by rcases e with e | e;omega;omega)),Lib.hid hoX,Lib.hid ((HS.out.mod hmW (fun b e=>by omega)).step HQ.out.1 ⟨rfl,rfl,hl2,by rw [hl2];exact hc6,HW.out.from (by omega),fun i x' x h1 h2=>(HI.out.all i x' x h1 h2).from (by omega)⟩),by have:=hm0.size;omega⟩
      case measure=>rw [hwk.out];simp [intOf];omega
   ·obtain rfl:k=D.os.length:=by omega
    have hCP:=fun wf=>cop_end (wf:=wf) HC.out HO.out HS.out hz5 HD.out.2 HB.out.1 HB.out.2.1 HB.out.2.2.1 HB.out.2.2.2 hc5
    have y0:=HC.out.y0
    have y1:=HC.out.y1
    have y2:=HC.out.y2
    have y3:=HC.out.y3
    have y4:=HC.out.y4
    obtain ⟨u0,r0,f0⟩:=HC.out.r 0 (by omega)
    obtain ⟨u1,r1,f1⟩:=HC.out.r 1 (by omega)
    obtain ⟨u2,r2,f2⟩:=HC.out.r 2 (by omega)
    obtain ⟨u3,r3,f3⟩:=HC.out.r 3 (by omega)
    obtain ⟨u4,r4,f4⟩:=HC.out.r 4 (by omega)
    have HCP:=Lib.hid hCP
    clear hCP
    go_wp2
    refine LoadR.ret_c5 results75 jl xG rfl r0 r1 r2 r3 r4 (HCP.out _ ?_)
    exact (((((Mod.refl (fun j=>j=w.heap.size+1) wr).put ⟨w.heap.size+1,0,none⟩ _ rfl).put ⟨w.heap.size+1,1,none⟩ _ rfl).put ⟨w.heap.size+1,2,none⟩ _ rfl).put ⟨w.heap.size+1,3,none⟩ _ rfl).put ⟨w.heap.size+1,4,none⟩ _ rfl
def qew (D:DayM) (c:Nat) (s:Int):DayM:={ D with cs:=D.cs.set c ⟨(D.cs[c]?.getD ⟨0,0,0,0,0⟩).fr,(D.cs[c]?.getD ⟨0,0,0,0,0⟩).toT,(D.cs[c]?.getD ⟨0,0,0,0,0⟩).co,(D.cs[c]?.getD ⟨0,0,0,0,0⟩).cl,s⟩ }
def SeeP (D:DayM) (c:Nat) (s:Int) (w:World) (e:Ending) (w':World):Prop :=
 Below w.heap.size w w'∧∃D',SameD D' (qew D c s)∧DaySm D'∧DayAt w' D'∧((zf D' 0≠0∧e=.returned (.tuple #[d0v,.int .i64 (zf D' 0)]))∨(zf D' 0=0∧e=.returned (.tuple #[dv D',.int .i64 0])))
theorem zN.setj {α:Type} {B k:Nat} {w:World} {enc:α→List Value} {g:Nat} {l:List α} {i j:Nat} {x y:α} {v:Value} (he:∀z,(enc z).length=k) (h:zN B w k enc (some ⟨g,0,none⟩) l) (hx:l[i]? = some x) (hj:enc y=(enc x).set j v) (hjk:j < k):zN B (w.setCell ⟨g,i * k+j,none⟩ v) k enc (some ⟨g,0,none⟩) (l.set i y) :=
 ⟨h.1,fun hl=>⟨g,rfl,fun i' y' hy j' u hu=>by
   have hi:=(List.getElem?_eq_some_iff.1 hx).1
   obtain ⟨g',e,hc⟩:=h.2 (by omega)
   cases e
   have hj':j' < k:=by have:=(List.getElem?_eq_some_iff.1 hu).1;rwa [he] at this
   have hdiv:∀a b:Nat,b < k→(a * k+b) / k=a:=fun a b hb=>by rw [Nat.mul_comm,Nat.mul_add_div (by omega),Nat.div_eq_of_lt hb,Nat.add_zero]
   by_cases e:i'=i
   ·subst e
    rw [List.getElem?_set_self hi] at hy
    obtain rfl:=Option.some.inj hy
    rw [hj] at hu
    by_cases e2:j'=j
    ·subst e2
     rw [List.getElem?_set_self (by rw [he];exact hjk)] at hu
     obtain rfl:=Option.some.inj hu
     have h0:=hc i' x hx j' ((enc x)[j']'(by rw [he];exact hjk)) (List.getElem?_eq_getElem _)
     exact ⟨qp (qz h0.1),by simpa using h0.2⟩
    ·rw [List.getElem?_set_ne (Ne.symm e2)] at hu
     have h0:=hc i' x hx j' u hu
     exact ⟨qf h0.1 (.inr (by simp only;omega)),by simpa using h0.2⟩
   ·rw [List.getElem?_set_ne (Ne.symm e)] at hy
    have h9:=hc i' y' hy j' u hu
    refine ⟨qf h9.1 (.inr (fun h8=>e ?_)),by simpa using h9.2⟩
    have h7:=hdiv i' j' hj'
    have h6:i' * k+j'=i * k+j:=h8
    rw [h6,hdiv i j hjk] at h7
    exact h7.symm⟩⟩
set_option maxHeartbeats 4000000 in
set_option maxRecDepth 100000 in
theorem see_ok (D:DayM) (w:World) (h:DayAt w D) (hs:DaySm D) (hG:Globs w) (hz:checkN D=0) (c:Nat) (s:Int) (x:CalM) (hx:D.cs[c]? = some x) (hm1:-1≤s) (hw:s < (qJ D x).ws.length) (hu:x.se=-2) :
 Calls qj 29 #[dv D,.int .i64 c,.int .i64 s] w (SeeP D c s w):=by
 have hc:=(List.getElem?_eq_some_iff.1 hx).1
 obtain ⟨fr,tw,co,cl,se⟩:=x
 simp only at hu
 subst hu
 have hwo:=fun W (hB:Below w.heap.size w W) (M:Nat)=>jG D (some M) ⟨fr,tw,co,cl,-2⟩ W (h.keep hB) hs
 have hwv:YE D ⟨fr,tw,co,cl,-2⟩=.slice (qJ D ⟨fr,tw,co,cl,-2⟩).a (qJ D ⟨fr,tw,co,cl,-2⟩).ws.length (qJ D ⟨fr,tw,co,cl,-2⟩).c:=rfl
 have hcv:cvC ⟨fr,tw,co,cl,-2⟩=.agg #[.int .i64 fr,.int .i64 tw,.int .i64 co,.int .i64 cl,.int .i64 (-2)]:=rfl
 rw [hwv,hcv] at hwo
 have HWO:=Lib.hid hwo
 clear hwv hcv hwo
 generalize (qJ D ⟨fr,tw,co,cl,-2⟩).ws.length=wn at *
 generalize (qJ D ⟨fr,tw,co,cl,-2⟩).a=wa at *
 generalize (qJ D ⟨fr,tw,co,cl,-2⟩).c=wc at *
 obtain ⟨W,hW⟩:∃W,(w.alloc (Obj.cells #[.slice D.ta D.ts.length D.tc,.slice D.ga D.gs.length D.gc,.slice D.oa D.os.length D.oc,.slice D.ha D.hs.length D.hc,.slice D.ca D.cs.length D.cc] 28)).alloc (Obj.cells #[.slice none 0 0,.slice none 0 0,.slice none 0 0,.slice none 0 0,.slice none 0 0] 28)=W:=⟨_,rfl⟩
 have hBW:Below w.heap.size w W:=by subst hW;go_grown
 have hsW:W.heap.size=w.heap.size+2:=by subst hW;simp
 have k0:W.cell? ⟨w.heap.size,0,none⟩=some (.slice D.ta D.ts.length D.tc):=by subst hW;go_cell
 have k1:W.cell? ⟨w.heap.size,1,none⟩=some (.slice D.ga D.gs.length D.gc):=by subst hW;go_cell
 have k2:W.cell? ⟨w.heap.size,2,none⟩=some (.slice D.oa D.os.length D.oc):=by subst hW;go_cell
 have k3:W.cell? ⟨w.heap.size,3,none⟩=some (.slice D.ha D.hs.length D.hc):=by subst hW;go_cell
 have k4:W.cell? ⟨w.heap.size,4,none⟩=some (.slice D.ca D.cs.length D.cc):=by subst hW;go_cell
 have b0:W.cell? ⟨w.heap.size+1,0,none⟩=some (.slice none 0 0):=by subst hW;go_cell
 have b1:W.cell? ⟨w.heap.size+1,1,none⟩=some (.slice none 0 0):=by subst hW;go_cell
 have b2:W.cell? ⟨w.heap.size+1,2,none⟩=some (.slice none 0 0):=by subst hW;go_cell
 have b3:W.cell? ⟨w.heap.size+1,3,none⟩=some (.slice none 0 0):=by subst hW;go_cell
 have b4:W.cell? ⟨w.heap.size+1,4,none⟩=some (.slice none 0 0):=by subst hW;go_cell
 have g0:W.frozen? ⟨w.heap.size+1,0,none⟩=false:=by subst hW;go_cell
 have g1:W.frozen? ⟨w.heap.size+1,1,none⟩=false:=by subst hW;go_cell
 have g2:W.frozen? ⟨w.heap.size+1,2,none⟩=false:=by subst hW;go_cell
 have g3:W.frozen? ⟨w.heap.size+1,3,none⟩=false:=by subst hW;go_cell
 have g4:W.frozen? ⟨w.heap.size+1,4,none⟩=false:=by subst hW;go_cell
 have hop:=XA D W (h.keep hBW) hs (hG.keep hBW) hz
 have hidx:=fun X=>Qk c D.cs.length X (by omega) (by have:=hs.cs.1;omega)
 rw [show qU (c:Int) D.cs.length=0 by unfold qU;rw [if_pos (zM.2 ⟨by omega,by omega⟩)]] at hidx
 have HD:=Lib.hid (And.intro h (And.intro hs hG))
 have HB:=Lib.hid (And.intro hBW hsW)
 have hdv:dv D=.agg #[.slice D.ta D.ts.length D.tc,.slice D.ga D.gs.length D.gc,.slice D.oa D.os.length D.oc,.slice D.ha D.hs.length D.hc,.slice D.ca D.cs.length D.cc]:=rfl
 rw [hdv] at hop ⊢
 obtain ⟨bc,oc,ea,hcx⟩:=h.cs (by omega)
 have HCX:=Lib.hid hcx
 have HEA:=Lib.hid ea
 clear ea
 have HX:=Lib.hid hx
 have HI:=Lib.hid hidx
 have hsm:=hs.cs.2
 clear h hs hG hdv hz hcx hx hidx
 go_enter (sf 29 f29),ntmps29
 go_upto_region 1 with fail
 try rw [hW]
 unfold dm at hop
 go_upto_region 2 with (go_at_call 66;(with_reducible refine hop.mono ?_);rintro e w1 ⟨M,rfl,hM,hGM,hB1⟩;have hs1:=hB1.size)
 obtain ⟨V,hV⟩:∃V,w1.alloc (Obj.cells #[.slice D.ta D.ts.length D.tc,.slice D.ga D.gs.length D.gc,.slice D.oa D.os.length D.oc,.slice D.ha D.hs.length D.hc,.slice D.ca D.cs.length D.cc,.map (some M)] 74)=V:=⟨_,rfl⟩
 have hBV:Below W.heap.size W V:=Below.call hB1 (by subst hV;go_grown) (by omega)
 have hBV1:Below w1.heap.size w1 V:=by subst hV;go_grown
 have q0:V.cell? ⟨w1.heap.size,0,none⟩=some (.slice D.ta D.ts.length D.tc):=by subst hV;go_cell
 have q1:V.cell? ⟨w1.heap.size,1,none⟩=some (.slice D.ga D.gs.length D.gc):=by subst hV;go_cell
 have q2:V.cell? ⟨w1.heap.size,2,none⟩=some (.slice D.oa D.os.length D.oc):=by subst hV;go_cell
 have q3:V.cell? ⟨w1.heap.size,3,none⟩=some (.slice D.ha D.hs.length D.hc):=by subst hV;go_cell
 have q4:V.cell? ⟨w1.heap.size,4,none⟩=some (.slice D.ca D.cs.length D.cc):=by subst hV;go_cell
 have q5:V.cell? ⟨w1.heap.size,5,none⟩=some (.map (some M)):=by subst hV;go_cell
 try rw [hV]
 have k0:=qb _ hBV k0
 have k1:=qb _ hBV k1
 have k2:=qb _ hBV k2
 have k3:=qb _ hBV k3
 have k4:=qb _ hBV k4
 have g0:=qd _ hBV b0 g0
 have b0:=qb _ hBV b0
 have g1:=qd _ hBV b1 g1
 have b1:=qb _ hBV b1
 have g2:=qd _ hBV b2 g2
 have b2:=qb _ hBV b2
 have g3:=qd _ hBV b3 g3
 have b3:=qb _ hBV b3
 have g4:=qd _ hBV b4 g4
 have b4:=qb _ hBV b4
 clear hV hop hB1 hBV1 hGM
 clear hW
 go_upto_region 7 with (go_at_call 35;(with_reducible refine (HI.out _).mono ?_);rintro e w2 ⟨rfl,rfl⟩)
 have hBwV:=Below.call HB.out.1 hBV (by omega)
 have hci0:(0:Int)≤(c:Int):=Int.natCast_nonneg c
 have hci1:(c:Int) < (D.cs.length:Int):=by omega
 have hcic:(c:Int)≤(D.cc:Int):=by omega
 have r0:=qb _ hBwV (HCX.out c _ HX.out 0 _ rfl)
 have r1:=qb _ hBwV (HCX.out c _ HX.out 1 _ rfl)
 have r2:=qb _ hBwV (HCX.out c _ HX.out 2 _ rfl)
 have r3:=qb _ hBwV (HCX.out c _ HX.out 3 _ rfl)
 have r4:=qb _ hBwV (HCX.out c _ HX.out 4 _ rfl)
 simp only [Nat.add_zero] at r0
 have hA1:¬ s < -1:=by omega
 have hA2:¬ (wn:Int)≤s:=by omega
 have HBV:=Lib.hid (And.intro hBwV hBV)
 rw [HEA.out] at q4 k4 ⊢
 clear hBV
 go_upto_region 10 with fail
 obtain ⟨U,hU⟩:∃U,V.alloc (Obj.cells #[.int .i64 fr,.int .i64 tw,.int .i64 co,.int .i64 cl,.int .i64 (-2)] 52)=U:=⟨_,rfl⟩
 have hBU:Below V.heap.size V U:=by subst hU;go_grown
 have u0:U.cell? ⟨V.heap.size,0,none⟩=some (.int .i64 fr):=by subst hU;go_cell
 have u1:U.cell? ⟨V.heap.size,1,none⟩=some (.int .i64 tw):=by subst hU;go_cell
 have u2:U.cell? ⟨V.heap.size,2,none⟩=some (.int .i64 co):=by subst hU;go_cell
 have u3:U.cell? ⟨V.heap.size,3,none⟩=some (.int .i64 cl):=by subst hU;go_cell
 have u4:U.cell? ⟨V.heap.size,4,none⟩=some (.int .i64 (-2)):=by subst hU;go_cell
 try rw [hU]
 have k0:=qb _ hBU k0
 have k1:=qb _ hBU k1
 have k2:=qb _ hBU k2
 have k3:=qb _ hBU k3
 have k4:=qb _ hBU k4
 have g0:=qd _ hBU b0 g0
 have b0:=qb _ hBU b0
 have g1:=qd _ hBU b1 g1
 have b1:=qb _ hBU b1
 have g2:=qd _ hBU b2 g2
 have b2:=qb _ hBU b2
 have g3:=qd _ hBU b3 g3
 have b3:=qb _ hBU b3
 have g4:=qd _ hBU b4 g4
 have b4:=qb _ hBU b4
 have q0:=qb _ hBU q0
 have q1:=qb _ hBU q1
 have q2:=qb _ hBU q2
 have q3:=qb _ hBU q3
 have q4:=qb _ hBU q4
 have q5:=qb _ hBU q5
 have hzU:=hBU.size
 have HBU:=Lib.hid (bcl HBV.out.1 hBU)
 clear hU hBU r0 r1 r2 r3 r4
 have hwo2:=fun W hB=>HWO.out W hB M
 unfold dm at hwo2
 simp only [HEA.out] at hwo2
 have HW2:=Lib.hid hwo2
 clear hwo2
 go_upto_region 14 with (go_at_call 50;(with_reducible refine (HW2.out _ HBU.out).mono ?_);rintro e w3 ⟨rfl,hB3⟩;have hz3:V.heap.size < w3.heap.size:=(by have h9:=hB3.size;have h8:=lt_of_cell u0;simp only at h8;omega);have u4:=qb _ hB3 u4)
 have k0:=qb _ hB3 k0
 have k1:=qb _ hB3 k1
 have k2:=qb _ hB3 k2
 have k3:=qb _ hB3 k3
 have k4:=qb _ hB3 k4
 have g0:=qd _ hB3 b0 g0
 have b0:=qb _ hB3 b0
 have g1:=qd _ hB3 b1 g1
 have b1:=qb _ hB3 b1
 have g2:=qd _ hB3 b2 g2
 have b2:=qb _ hB3 b2
 have g3:=qd _ hB3 b3 g3
 have b3:=qb _ hB3 b3
 have g4:=qd _ hB3 b4 g4
 have b4:=qb _ hB3 b4
 have hw2:w.heap.size+2≤w3.heap.size:=by have h9:=lt_of_cell b0;simp only at h9;omega
 have hBw3:=bcl HBU.out hB3
 have hcop:=qbE D w3 (HD.out.1.keep hBw3) HD.out.2.1
 rw [show dv D=.agg #[.slice D.ta D.ts.length D.tc,.slice D.ga D.gs.length D.gc,.slice D.oa D.os.length D.oc,.slice D.ha D.hs.length D.hc,.slice (some ⟨bc,oc,none⟩) D.cs.length D.cc] by unfold dv;rw [HEA.out]] at hcop
 have HB3:=Lib.hid hBw3
 clear hBw3 hB3 u0 u1 u2 u3 u4 q0 q1 q2 q3 q4 q5
 go_upto_region 15 with (go_at_call 75;(with_reducible refine hcop.mono ?_);intro e X hP;obtain ⟨D',he,hBX,hSD,hSm,hOwn,hHold⟩:=hP;obtain ⟨g,eca,hrw⟩:=hOwn.2 (by rw [hSD.cs];omega);have hdv':dv D'=.agg #[.slice D'.ta D'.ts.length D'.tc,.slice D'.ga D'.gs.length D'.gc,.slice D'.oa D'.os.length D'.oc,.slice D'.ha D'.hs.length D'.hc,.slice (some ⟨g,0,none⟩) D'.cs.length D'.cc]:=(by unfold dv;rw [eca]);rw [hdv'] at he;subst he;have HECA:=Lib.hid (And.intro eca (And.intro hdv' (And.intro hSD (And.intro hSm (And.intro hOwn hHold)))));clear eca hdv' hSD hSm hOwn hHold)
 have hlenD:D'.cs.length=D.cs.length:=by rw [HECA.out.2.2.1.cs]
 have hx':D'.cs[c]? = some ⟨fr,tw,co,cl,-2⟩:=by rw [HECA.out.2.2.1.cs];exact HX.out
 have hgw:w3.heap.size≤g:=HECA.out.2.2.2.2.1.1 _ HECA.out.1
 have hci2:(c:Int) < (D'.cs.length:Int):=by omega
 have hci3:(c:Int)≤(D'.cc:Int):=by have:=HECA.out.2.2.2.1.cs.2;omega
 clear hlenD
 have hgX:g < X.heap.size:=lt_of_cell (hrw c _ hx' 0 _ rfl).1
 obtain ⟨Y,hY⟩:∃Y,X.alloc (Obj.cells #[.slice D'.ta D'.ts.length D'.tc,.slice D'.ga D'.gs.length D'.gc,.slice D'.oa D'.os.length D'.oc,.slice D'.ha D'.hs.length D'.hc,.slice (some ⟨g,0,none⟩) D'.cs.length D'.cc] 28)=Y:=⟨_,rfl⟩
 have hBY:Below X.heap.size X Y:=by subst hY;go_grown
 have hBwX:=bcl HB3.out hBX
 have hBXY:=bcl hBX hBY
 have y0:Y.cell? ⟨X.heap.size,0,none⟩=some (.slice D'.ta D'.ts.length D'.tc):=by subst hY;go_cell
 have y1:Y.cell? ⟨X.heap.size,1,none⟩=some (.slice D'.ga D'.gs.length D'.gc):=by subst hY;go_cell
 have y2:Y.cell? ⟨X.heap.size,2,none⟩=some (.slice D'.oa D'.os.length D'.oc):=by subst hY;go_cell
 have y3:Y.cell? ⟨X.heap.size,3,none⟩=some (.slice D'.ha D'.hs.length D'.hc):=by subst hY;go_cell
 have y4:Y.cell? ⟨X.heap.size,4,none⟩=some (.slice (some ⟨g,0,none⟩) D'.cs.length D'.cc):=by subst hY;go_cell
 have g0:=qd _ hBXY b0 g0
 have b0:=qb _ hBXY b0
 have g1:=qd _ hBXY b1 g1
 have b1:=qb _ hBXY b1
 have g2:=qd _ hBXY b2 g2
 have b2:=qb _ hBXY b2
 have g3:=qd _ hBXY b3 g3
 have b3:=qb _ hBXY b3
 have g4:=qd _ hBXY b4 g4
 have b4:=qb _ hBXY b4
 have s4:=qb _ hBY (hrw c _ hx' 4 _ rfl).1
 have f4:=qd _ hBY (hrw c _ hx' 4 _ rfl).1 (hrw c _ hx' 4 _ rfl).2
 have hBwY:=bcl hBwX hBY
 have HP:=Lib.hid (And.intro hBY (And.intro hBwY hx'))
 try rw [hY]
 clear hY hBY hBX hBwX hBwY hBXY hrw hcop k0 k1 k2 k3 k4 hx'
 go_upto_region 16 with fail
 obtain ⟨Z,hZ⟩:∃Z,Y.setCell ⟨g,c * 5+4,none⟩ (.int .i64 s)=Z:=⟨_,rfl⟩
 have hmZ:Mod (fun j=>j=g) Y Z:=by subst hZ;exact (Mod.refl (fun j=>j=g) Y).put ⟨g,c * 5+4,none⟩ _ rfl
 have hO:zN w3.heap.size X 5 Qc (some ⟨g,0,none⟩) D'.cs:=by rw [← HECA.out.1];exact HECA.out.2.2.2.2.1
 have hrZ:qh Z 5 Qc D'.ca (D'.cs.set c ⟨fr,tw,co,cl,s⟩):=by
  rw [HECA.out.1,← hZ]
  exact (zN.setj (k:=5) (enc:=Qc) (fun _=>rfl) (hO.keep HP.out.1) HP.out.2.2 (show Qc ⟨fr,tw,co,cl,s⟩=(Qc ⟨fr,tw,co,cl,-2⟩).set 4 (.int .i64 s) from rfl) (by decide)).rows
 have hSm2:DaySm ({ D' with cs:=D'.cs.set c ⟨fr,tw,co,cl,s⟩ }:DayM):=by
  have h:=HECA.out.2.2.2.1
  exact ⟨h.ts,h.nm,h.gs,h.os,h.ws,h.ls,h.hs,by rw [List.length_set];exact h.cs⟩
 have hSD2:SameD ({ D' with cs:=D'.cs.set c ⟨fr,tw,co,cl,s⟩ }:DayM) (qew D c s):=by
  have h:=HECA.out.2.2.1
  refine ⟨h.ts,h.gs,h.os,h.hs,?_⟩
  show D'.cs.set c _=D.cs.set c _
  rw [h.cs,HX.out]
  rfl
 have hmXZ:Mod (fun j=>j < w3.heap.size∨(1≤D.cs.length∧∃p,D'.ca=some p∧p.block=j)) X Z:=(Mod.below HP.out.1).trans (hmZ.mono fun b e=>.inr ⟨by omega,_,HECA.out.1,e.symm⟩)
 have hdZ:=HECA.out.2.2.2.2.2 Z _ hmXZ hrZ
 have hBwZ:Below w.heap.size w Z:=HP.out.2.1.trans (hmZ.keep HP.out.2.1.size (fun j e=>by omega))
 have hag:=qby _ Z hdZ hSm2 (HD.out.2.2.keep hBwZ)
 have hdv2:dv ({ D' with cs:=D'.cs.set c ⟨fr,tw,co,cl,s⟩ }:DayM)=.agg #[.slice D'.ta D'.ts.length D'.tc,.slice D'.ga D'.gs.length D'.gc,.slice D'.oa D'.os.length D'.oc,.slice D'.ha D'.hs.length D'.hc,.slice (some ⟨g,0,none⟩) D'.cs.length D'.cc]:=by unfold dv;simp only [List.length_set,HECA.out.1]
 have y0:=hmZ.cell y0 (by simp only;omega)
 have y1:=hmZ.cell y1 (by simp only;omega)
 have y2:=hmZ.cell y2 (by simp only;omega)
 have y3:=hmZ.cell y3 (by simp only;omega)
 have y4:=hmZ.cell y4 (by simp only;omega)
 have g0:=(hmZ.frozen b0 (by simp only;omega)).trans g0
 have b0:=hmZ.cell b0 (by simp only;omega)
 have g1:=(hmZ.frozen b1 (by simp only;omega)).trans g1
 have b1:=hmZ.cell b1 (by simp only;omega)
 have g2:=(hmZ.frozen b2 (by simp only;omega)).trans g2
 have b2:=hmZ.cell b2 (by simp only;omega)
 have g3:=(hmZ.frozen b3 (by simp only;omega)).trans g3
 have b3:=hmZ.cell b3 (by simp only;omega)
 have g4:=(hmZ.frozen b4 (by simp only;omega)).trans g4
 have b4:=hmZ.cell b4 (by simp only;omega)
 have HZ:=Lib.hid (And.intro hSm2 (And.intro hSD2 (And.intro hmXZ (And.intro hrZ hBwZ))))
 have HAG:=Lib.hid hag
 rw [hZ]
 clear hZ hmZ hO hrZ hSm2 hSD2 hmXZ hdZ hBwZ hag s4 f4
 generalize hD2:({ D' with cs:=D'.cs.set c ⟨fr,tw,co,cl,s⟩ }:DayM)=D2 at *
 have HD2:=Lib.hid hD2
 clear hD2
 have HV:=Lib.hid hdv2
 clear hdv2
 by_cases hask:zf D2 0=0
 ·have HA:=Lib.hid hask
  clear hask
  have hag2:Calls qj 76 #[.agg #[.slice D'.ta D'.ts.length D'.tc,.slice D'.ga D'.gs.length D'.gc,.slice D'.oa D'.os.length D'.oc,.slice D'.ha D'.hs.length D'.hc,.slice (some ⟨g,0,none⟩) D'.cs.length D'.cc]] Z fun e w'=>e=.returned (.tuple #[.agg #[.slice D'.ta D'.ts.length D'.tc,.slice D'.ga D'.gs.length D'.gc,.slice D'.oa D'.os.length D'.oc,.slice D'.ha D'.hs.length D'.hc,.slice (some ⟨g,0,none⟩) D'.cs.length D'.cc],.int .i64 0])∧Below Z.heap.size Z w':=by
   rw [← HV.out]
   refine HAG.out.mono fun e w' h=>⟨?_,h.1⟩
   rcases h.2 with h2 | h2
   ·exact absurd HA.out h2.1
   ·rw [h2.2,HV.out]
  go_wp2_with (go_at_call 76;(with_reducible refine hag2.mono ?_);rintro e w5 ⟨rfl,hB5⟩;have c0:=qb _ hB5 b0;have f0:=qd _ hB5 b0 g0;have c1:=qb _ hB5 b1;have f1:=qd _ hB5 b1 g1;have c2:=qb _ hB5 b2;have f2:=qd _ hB5 b2 g2;have c3:=qb _ hB5 b3;have f3:=qd _ hB5 b3 g3;have c4:=qb _ hB5 b4;have f4:=qd _ hB5 b4 g4)
  refine LoadR.ret_ct5 results29 jl xG rfl rfl c0 c1 c2 c3 c4 ?_
  refine ⟨LoadR.Below.set5 (bcl HZ.out.2.2.2.2 hB5) (by omega),D2,HZ.out.2.1,HZ.out.1,?_,.inr ⟨HA.out,by rw [HV.out];rfl⟩⟩
  rw [← HD2.out]
  refine HECA.out.2.2.2.2.2 _ _ ((HZ.out.2.2.1.trans (Mod.below hB5)).trans (((((Mod.refl _ w5).put ⟨w.heap.size+1,0,none⟩ _ (.inl (by simp only;omega))).put ⟨w.heap.size+1,1,none⟩ _ (.inl (by simp only;omega))).put ⟨w.heap.size+1,2,none⟩ _ (.inl (by simp only;omega))).put ⟨w.heap.size+1,3,none⟩ _ (.inl (by simp only;omega)) |>.put ⟨w.heap.size+1,4,none⟩ _ (.inl (by simp only;omega)))) ?_
  have hr:=HZ.out.2.2.2.1.keep hB5
  rw [HECA.out.1] at hr ⊢
  exact zD hr (by omega)
 ·have HA:=Lib.hid hask
  clear hask
  have hb0:(zf D2 0 != 0)=true:=by simpa using HA.out
  have hag2:Calls qj 76 #[.agg #[.slice D'.ta D'.ts.length D'.tc,.slice D'.ga D'.gs.length D'.gc,.slice D'.oa D'.os.length D'.oc,.slice D'.ha D'.hs.length D'.hc,.slice (some ⟨g,0,none⟩) D'.cs.length D'.cc]] Z fun e w'=>e=.returned (.tuple #[.agg #[.slice none 0 0,.slice none 0 0,.slice none 0 0,.slice none 0 0,.slice none 0 0],.int .i64 (zf D2 0)])∧Below Z.heap.size Z w':=by
   rw [← HV.out]
   refine HAG.out.mono fun e w' h=>⟨?_,h.1⟩
   rcases h.2 with h2 | h2
   ·exact h2.2
   ·exact absurd h2.1 HA.out
  go_wp2_with (go_at_call 76;(with_reducible refine hag2.mono ?_);rintro e w5 ⟨rfl,hB5⟩;have c0:=qb _ hB5 b0;have f0:=qd _ hB5 b0 g0;have c1:=qb _ hB5 b1;have f1:=qd _ hB5 b1 g1;have c2:=qb _ hB5 b2;have f2:=qd _ hB5 b2 g2;have c3:=qb _ hB5 b3;have f3:=qd _ hB5 b3 g3;have c4:=qb _ hB5 b4;have f4:=qd _ hB5 b4 g4)
  refine LoadR.ret_ct5 results29 jl xG rfl rfl c0 c1 c2 c3 c4 ?_
  refine ⟨LoadR.Below.set5 (bcl HZ.out.2.2.2.2 hB5) (by omega),D2,HZ.out.2.1,HZ.out.1,?_,.inl ⟨HA.out,rfl⟩⟩
  rw [← HD2.out]
  refine HECA.out.2.2.2.2.2 _ _ ((HZ.out.2.2.1.trans (Mod.below hB5)).trans (((((Mod.refl _ w5).put ⟨w.heap.size+1,0,none⟩ _ (.inl (by simp only;omega))).put ⟨w.heap.size+1,1,none⟩ _ (.inl (by simp only;omega))).put ⟨w.heap.size+1,2,none⟩ _ (.inl (by simp only;omega))).put ⟨w.heap.size+1,3,none⟩ _ (.inl (by simp only;omega)) |>.put ⟨w.heap.size+1,4,none⟩ _ (.inl (by simp only;omega)))) ?_
  have hr:=HZ.out.2.2.2.1.keep hB5
  rw [HECA.out.1] at hr ⊢
  exact zD hr (by omega)
def ayrS:ByteArray:=⟨#[97,121,114]⟩
def buteS:ByteArray:=⟨#[98,117,116,101]⟩
def qaQ:ByteArray:=⟨#[99,114,101,119,101]⟩
def exD (s g:Nat):DayM :=
 ⟨[ayrS,buteS,qaQ],some ⟨s,0,none⟩,3,[⟨0,1,1,1⟩,⟨0,2,1,2⟩,⟨2,1,1,1⟩],some ⟨g,0,none⟩,3,
  [⟨0,1,[⟨[0],some ⟨g+1,0,none⟩,1⟩,⟨[1,2],some ⟨g+2,0,none⟩,2⟩],some ⟨g+3,0,none⟩,2⟩,⟨0,2,[⟨[1],some ⟨g+4,0,none⟩,1⟩],some ⟨g+5,0,none⟩,1⟩],some ⟨g+6,0,none⟩,2,
  [],none,0,[⟨0,1,0,9,-2⟩,⟨0,1,1,6,-2⟩,⟨0,2,2,8,-2⟩,⟨0,1,6,9,-2⟩],some ⟨g+7,0,none⟩,4⟩
theorem sort_of {l s:List Int} (hp:l.Perm s) (hs:s.Pairwise fun x y=>decide (x≤y)=true):l.mergeSort (fun x y=>decide (x≤y))=s:=by
 refine List.Perm.eq_of_pairwise (le:=fun x y=>decide (x≤y)=true) ?_ (List.pairwise_mergeSort ?_ ?_ l) hs ((List.mergeSort_perm l _).trans hp)
 ·intro a b _ _ h1 h2
  have:=of_decide_eq_true h1
  have:=of_decide_eq_true h2
  omega
 ·intro a b c h1 h2
  have:=of_decide_eq_true h1
  have:=of_decide_eq_true h2
  exact decide_eq_true (by omega)
 ·intro a b
  by_cases h:a≤b
  ·simp [h]
  ·have:b≤a:=by omega
   simp [this]
theorem Qi {l m s r:List Int} (hl:l=m) (hp:m.Perm s) (hs:s.Pairwise fun x y=>decide (x≤y)=true) (hc:Lib.compact s=r):zm l=r:=by
 unfold zm
 rw [hl,sort_of hp hs,hc]
theorem xZ (s g:Nat):DaySm (exD s g):=by
 refine ⟨by show (3:Nat)≤20∧(3:Nat)≤3;decide,?_,by show (3:Nat)≤20∧(3:Nat)≤3;decide,by show (2:Nat)≤20∧(2:Nat)≤2;decide,?_,?_,by show (0:Nat)≤20∧(0:Nat)≤0;decide,by show (4:Nat)≤20∧(4:Nat)≤4;decide⟩
 ·intro x hx
  simp only [exD,List.mem_cons,List.not_mem_nil,or_false] at hx
  rcases hx with rfl | rfl | rfl
  all_goals exact Nat.le_of_ble_eq_true rfl
 ·intro o ho
  simp only [exD,List.mem_cons,List.not_mem_nil,or_false] at ho
  rcases ho with rfl | rfl
  all_goals exact ⟨Nat.le_of_ble_eq_true rfl,Nat.le_of_ble_eq_true rfl⟩
 ·intro o ho x hx
  simp only [exD,List.mem_cons,List.not_mem_nil,or_false] at ho
  rcases ho with rfl | rfl
  all_goals simp only [List.mem_cons,List.not_mem_nil,or_false] at hx
  ·rcases hx with rfl | rfl
   all_goals exact ⟨Nat.le_of_ble_eq_true rfl,Nat.le_of_ble_eq_true rfl⟩
  ·subst hx;exact ⟨Nat.le_of_ble_eq_true rfl,Nat.le_of_ble_eq_true rfl⟩
theorem Zx (s g:Nat):checkN (exD s g)=0:=by kernel_rfl
theorem jm (s g:Nat):qo (exD s g)=[⟨1,1,1,0⟩,⟨1,2,1,0⟩]:=by kernel_rfl
theorem jR (s g:Nat):zf (exD s g) 0=0:=by
 unfold zf
 rw [Zx,jm]
 rfl
theorem ex_play (s g:Nat):qG (exD s g) (setOf (zK [1,1,1]))=[0,1,-1,1]:=by kernel_rfl
theorem ex_playA (s g:Nat):QX (exD s g) [1,1,1]=0:=by
 unfold QX
 rw [Zx]
 rfl
theorem qaT (s g:Nat):Ya (exD s g) 2=[-1,0]:=by
 unfold Ya
 rw [jm]
 exact Qi (m:=[-1,0]) (s:=[-1,0]) (by kernel_rfl) (List.Perm.refl _) (by decide) (by decide +kernel)
theorem ex_goes3 (s g:Nat):Ya (exD s g) 3=[1]:=by
 unfold Ya
 rw [jm]
 exact Qi (m:=[1,1]) (s:=[1,1]) (by kernel_rfl) (List.Perm.refl _) (by decide) (by decide +kernel)
theorem ex_lost (s g:Nat):Yg (exD s g)=[0,1]:=by
 unfold Yg
 rw [jm]
 exact Qi (m:=[1,0]) (s:=[0,1]) (by kernel_rfl) (List.Perm.swap 0 1 []) (by decide) (by decide +kernel)
theorem ex_free (s g:Nat):qbM (exD s g) 1 5=[0]:=by
 unfold qbM
 rw [jm]
 exact Qi (m:=[0,0]) (s:=[0,0]) (by kernel_rfl) (List.Perm.refl _) (by decide) (by decide +kernel)
theorem ex_ask (s g:Nat):askN (exD s g)=(2,1):=by kernel_rfl
theorem ex_more (s g:Nat):qag (exD s g)=(0,0):=by kernel_rfl
theorem ex_ext (s g:Nat):extN (exD s g)=some ⟨0,1,0,0⟩:=by kernel_rfl
theorem ex_os {s g:Nat} {l:List OrdM} (h:l.map ordK=(exD s g).os.map ordK):∃(a1 a2 a3 a4 a5:Option Addr) (c1 c2 c3 c4 c5:Nat),l=[⟨0,1,[⟨[0],a1,c1⟩,⟨[1,2],a2,c2⟩],a3,c3⟩,⟨0,2,[⟨[1],a4,c4⟩],a5,c5⟩]:=by
 have hl:l.length=2:=by have:=congrArg List.length h;simpa [exD] using this
 match l,hl with
 | [⟨f1,t1,w1,a1,c1⟩,⟨f2,t2,w2,a2,c2⟩],_ =>
   have h':[(f1,t1,w1.map (·.l)),(f2,t2,w2.map (·.l))]=[((0:Int),(1:Int),[[(0:Int)],[1,2]]),(0,2,[[1]])]:=h
   simp only [List.cons.injEq,Prod.mk.injEq,and_true] at h'
   obtain ⟨⟨rfl,rfl,hw1⟩,rfl,rfl,hw2⟩:=h'
   have hl1:w1.length=2:=by have:=congrArg List.length hw1;simpa using this
   have hl2:w2.length=1:=by have:=congrArg List.length hw2;simpa using this
   match w1,w2,hl1,hl2 with
   | [⟨l1,b1,d1⟩,⟨l2,b2,d2⟩],[⟨l3,b3,d3⟩],_,_ =>
     simp only [List.map_cons,List.map_nil,List.cons.injEq,and_true] at hw1 hw2
     obtain ⟨rfl,rfl⟩:=hw1
     obtain rfl:=hw2
     exact ⟨_,_,_,_,_,_,_,_,_,_,rfl⟩
theorem Xl {s g:Nat} {D':DayM} (h:SameD D' (qew (exD s g) 2 (-1))):zf D' 0=0∧zf D' (qU 2 D'.cs.length)=0∧(qo D').any (fun p => !qcj D' 2 p 0)=false∧jb (YO D' 2) (2 ^ D'.cs.length)=some [0]:=by
 obtain ⟨h1,h2,h3,h4,h5⟩:=h
 obtain ⟨a1,a2,a3,a4,a5,c1,c2,c3,c4,c5,h3⟩:=ex_os (s:=s) (g:=g) h3
 obtain ⟨ts,ta,tc,gs,ga,gc,os,oa,oc,hs,ha,hc,cs,ca,cc⟩:=D'
 have h1:ts=(exD s g).ts:=h1
 have h2:gs=(exD s g).gs:=h2
 have h4:hs=[]:=h4
 have h5:cs=[⟨0,1,0,9,-2⟩,⟨0,1,1,6,-2⟩,⟨0,2,2,8,-1⟩,⟨0,1,6,9,-2⟩]:=h5
 have h3:os=_:=h3
 subst h1 h2 h3 h4 h5
 exact ⟨by kernel_rfl,by kernel_rfl,by kernel_rfl,by kernel_rfl⟩
section
variable {s g:Nat} {w:World}
def NumsP (n:Nat) (L:List Int) (rest:Value→Value) (w:World) (e:Ending) (w':World):Prop :=
 Below w.heap.size w w'∧∃a c,e=.returned (rest (.slice a n c))∧n≤c∧qh w' 1 encI a L
theorem x_play (h:DayAt w (exD s g)) (hG:Globs w) (a:Option Addr) (hr:qh w 1 encI a [1,1,1]):Calls qj 27 #[dv (exD s g),.slice a 3 3] w (NumsP 4 [0,1,-1,1] (fun v=>.tuple #[v,.int .i64 0]) w) :=
 (play_top (exD s g) w h (xZ s g) hG [1,1,1] a 3 (by decide) (by decide) hr).mono fun e w' hp=>by
   obtain ⟨hB,h1 | h1⟩:=hp
   ·exact absurd (ex_playA s g) h1.1
   ·obtain ⟨_,a,c,rfl,hc,hr⟩:=h1
    rw [ex_play] at hr hc ⊢
    exact ⟨hB,a,c,rfl,hc,hr⟩
theorem x_hist (h:DayAt w (exD s g)) (hG:Globs w):Calls qj 24 #[dv (exD s g)] w fun e w'=>e=.returned (.tuple #[.int .i64 2,.int .i64 0])∧Below w.heap.size w w' :=
 (Xo (exD s g) w h (xZ s g) hG).mono fun e w' hp=>by
   obtain ⟨rfl,hB⟩:=hp
   rw [Zx,jm]
   exact ⟨rfl,hB⟩
theorem qcW (s g:Nat):zf (exD s g) (qU 2 (exD s g).cs.length)=0:=jR s g
theorem ex_ask3 (s g:Nat):zf (exD s g) (qU 3 (exD s g).cs.length)=0:=jR s g
theorem ex_askF (s g:Nat):zf (exD s g) (JX (exD s g) 1 5)=0:=jR s g
theorem x_goes (h:DayAt w (exD s g)) (hG:Globs w):Calls qj 9 #[dv (exD s g),.int .i64 2] w (NumsP 2 [-1,0] (fun v=>.tuple #[v,.int .i64 0]) w) :=
 (qaV (exD s g) w h (xZ s g) hG 2).mono fun e w' hp=>by
   obtain ⟨hB,h1 | h1⟩:=hp
   ·exact absurd (qcW s g) h1.1
   ·obtain ⟨_,a,c,rfl,hc,hr⟩:=h1
    rw [show (2:Int).toNat=2 from rfl,qaT] at hr hc ⊢
    exact ⟨hB,a,c,rfl,hc,hr⟩
theorem x_ref2 (h:DayAt w (exD s g)) (hG:Globs w):Calls qj 12 #[dv (exD s g),.int .i64 2] w fun e w'=>e=.returned (.tuple #[.int .i64 0,.int .i64 0])∧Below w.heap.size w w' :=
 (Yj (exD s g) w h (xZ s g) hG 2).mono fun e w' hp=>by
   obtain ⟨rfl,hB⟩:=hp
   rw [qcW,show (2:Int).toNat=2 from rfl,qaT]
   exact ⟨rfl,hB⟩
theorem x_ref3 (h:DayAt w (exD s g)) (hG:Globs w):Calls qj 12 #[dv (exD s g),.int .i64 3] w fun e w'=>e=.returned (.tuple #[.int .i64 2,.int .i64 0])∧Below w.heap.size w w' :=
 (Yj (exD s g) w h (xZ s g) hG 3).mono fun e w' hp=>by
   obtain ⟨rfl,hB⟩:=hp
   rw [ex_ask3,show (3:Int).toNat=3 from rfl,ex_goes3]
   exact ⟨rfl,hB⟩
theorem x_lost (h:DayAt w (exD s g)) (hG:Globs w):Calls qj 16 #[dv (exD s g)] w fun e w'=>e=.returned (.tuple #[.agg #[.int .i64 0,.int .i64 1],.int .i64 0])∧Below w.heap.size w w' :=
 (Xt (exD s g) w h (xZ s g) hG).mono fun e w' hp=>by
   obtain ⟨hB,h1 | h1⟩:=hp
   ·exact absurd (jR s g) h1.1
   ·rw [ex_lost] at h1
    exact ⟨h1.2,hB⟩
theorem x_free (h:DayAt w (exD s g)) (hG:Globs w):Calls qj 14 #[dv (exD s g),.int .i64 1,.int .i64 5] w fun e w'=>e=.returned (.tuple #[.agg #[.int .i64 0,.int .i64 0],.int .i64 0])∧Below w.heap.size w w' :=
 (free_top (exD s g) w h (xZ s g) hG 1 5).mono fun e w' hp=>by
   obtain ⟨hB,h1 | h1⟩:=hp
   ·exact absurd (ex_askF s g) h1.1
   ·rw [show (1:Int).toNat=1 from rfl,ex_free] at h1
    exact ⟨h1.2,hB⟩
theorem x_ask (h:DayAt w (exD s g)) (hG:Globs w):Calls qj 28 #[dv (exD s g)] w fun e w'=>e=.returned (.tuple #[.int .i64 2,.int .i64 1,.int .i64 0])∧Below w.heap.size w w' :=
 (ask_top (exD s g) w h (xZ s g) hG).mono fun e w' hp=>by
   obtain ⟨hB,h1 | h1⟩:=hp
   ·exact absurd (jR s g) h1.1
   ·rw [ex_ask] at h1
    exact ⟨h1.2,hB⟩
theorem x_more (h:DayAt w (exD s g)) (hG:Globs w):Calls qj 25 #[dv (exD s g)] w fun e w'=>e=.returned (.tuple #[.int .i64 0,.int .i64 0,.int .i64 0])∧Below w.heap.size w w' :=
 (Xu (exD s g) w h (xZ s g) hG).mono fun e w' hp=>by
   obtain ⟨hB,h1 | h1⟩:=hp
   ·exact absurd (jR s g) h1.1
   ·rw [ex_more] at h1
    exact ⟨h1.2,hB⟩
theorem x_ext (h:DayAt w (exD s g)) (hG:Globs w):Calls qj 31 #[dv (exD s g)] w (NumsP 3 [0,1,0] (fun v=>.tuple #[v,.bool true,.int .i64 0]) w) :=
 (qbI (exD s g) w h (xZ s g) hG).mono fun e w' hp=>by
   obtain ⟨hB,h1 | h1⟩:=hp
   ·exact absurd (jR s g) h1.1
   ·rw [ex_ext] at h1
    obtain ⟨_,a,c,rfl,hc,hr⟩:=h1
    exact ⟨hB,a,c,rfl,hc,hr⟩
theorem x_see (h:DayAt w (exD s g)) (hG:Globs w):Calls qj 29 #[dv (exD s g),.int .i64 2,.int .i64 (-1)] w fun e w'=>Below w.heap.size w w'∧∃D',SameD D' (qew (exD s g) 2 (-1))∧DaySm D'∧DayAt w' D'∧e=.returned (.tuple #[dv D',.int .i64 0]) :=
 (see_ok (exD s g) w h (xZ s g) hG (Zx s g) 2 (-1) ⟨0,2,2,8,-2⟩ rfl (by decide) (by show (-1:Int) < (1:Nat);decide) rfl).mono fun e w' hp=>by
   obtain ⟨hB,D',h1,h2,h3,h4 | h4⟩:=hp
   ·exact absurd (Xl h1).1 h4.1
   ·exact ⟨hB,D',h1,h2,h3,h4.2⟩
theorem x_bec {D':DayM} (hD:SameD D' (qew (exD s g) 2 (-1))) (hs:DaySm D') (h:DayAt w D') (hG:Globs w):Calls qj 30 #[dv D',.int .i64 2] w (NumsP 1 [0] (fun v=>.tuple #[v,.int .i64 0]) w) :=
 (JL D' w h hs hG 2).mono fun e w' hp=>by
   obtain ⟨hB,q,al,rfl,h1 | h1⟩:=hp
   ·exact absurd (Xl hD).2.1 h1.1
   ·obtain ⟨_,hr⟩:=h1
    unfold BecR at hr
    rw [show (2:Int).toNat=2 from rfl,(Xl hD).2.2.1,(Xl hD).2.2.2] at hr
    simp only [Bool.false_eq_true,if_false] at hr
    obtain ⟨rfl,a,c,rfl,hc,hr⟩:=hr
    exact ⟨hB,a,c,rfl,hc,hr⟩
end
def exA (w3:World):World:=((((((((w3.alloc (Obj.cells #[.int .i64 0,.int .i64 1,.int .i64 1,.int .i64 1,.int .i64 0,.int .i64 2,.int .i64 1,.int .i64 2,.int .i64 2,.int .i64 1,.int .i64 1,.int .i64 1] 116)).alloc (Obj.cells #[.int .i64 0] 3)).alloc (Obj.cells #[.int .i64 1,.int .i64 2] 3)).alloc (Obj.cells #[.slice (some ⟨w3.heap.size+1,0,none⟩) 1 1,.slice (some ⟨w3.heap.size+2,0,none⟩) 2 2] 31)).alloc (Obj.cells #[.int .i64 1] 3)).alloc (Obj.cells #[.slice (some ⟨w3.heap.size+4,0,none⟩) 1 1] 31)).alloc (Obj.cells #[.int .i64 0,.int .i64 1,.slice (some ⟨w3.heap.size+3,0,none⟩) 2 2,.int .i64 0,.int .i64 2,.slice (some ⟨w3.heap.size+5,0,none⟩) 1 1] 64)).alloc (Obj.cells #[.int .i64 0,.int .i64 1,.int .i64 0,.int .i64 9,.int .i64 (-2),.int .i64 0,.int .i64 1,.int .i64 1,.int .i64 6,.int .i64 (-2),.int .i64 0,.int .i64 2,.int .i64 2,.int .i64 8,.int .i64 (-2),.int .i64 0,.int .i64 1,.int .i64 6,.int .i64 9,.int .i64 (-2)] 52))
theorem new_cell (W:World) (cs:Array Value) (ty:TypeId) (j:Nat) (h:j < cs.size):(W.alloc (.cells cs ty)).cell? ⟨W.heap.size,j,none⟩=some cs[j]:=by
 unfold World.cell? World.alloc;simp [h]
theorem qh.more {α:Type} {W:World} {k:Nat} {enc:α→List Value} {a:Option Addr} {l:List α} (h:qh W k enc a l) {o:Obj}:qh (W.alloc o) k enc a l:=h.keep ((Below.refl _ W).alloc (Nat.le_refl _) o)
theorem yo {α:Type} {k:Nat} {enc:α→List Value} (he:∀x,(enc x).length=k) (l:List α) (W:World) (vs:Array Value) (ty:TypeId) (hv:vs.toList=l.flatMap enc) (b:Nat) (hb:W.heap.size=b):qh (W.alloc (Obj.cells vs ty)) k enc (some ⟨b,0,none⟩) l:=fun _=>by
 subst hb
 refine ⟨_,_,rfl,fun i x hx j v hj=>?_⟩
 have h1:=flat_get he l i j x v hx hj
 rw [← hv] at h1
 have h2:i * k+j < vs.size:=by
  have:=(List.getElem?_eq_some_iff.1 h1).1
  simpa using this
 rw [Nat.zero_add]
 have h3:=new_cell W vs ty (i * k+j) h2
 rw [h3]
 rw [Array.getElem?_toList] at h1
 rw [Array.getElem?_eq_getElem h2] at h1
 exact h1
set_option maxHeartbeats 4000000 in
set_option maxRecDepth 100000 in
theorem JH (w:World):Calls qj 26 #[] w fun e w'=>Below w.heap.size w w'∧∃s g,e=.returned (dv (exD s g))∧DayAt w' (exD s g):=by
 have hto:=fun a b W=>to_any a b W
 go_enter (sf 26 f26),ntmps26
 go_wp2
 go_at_call 32
 refine (hto _ _ _).mono ?_
 rintro e w1 ⟨rfl,h1⟩
 have B1:Below w.heap.size w w1:=bcl (w:=w) (by go_grown) h1
 have T1:qh w1 1 encS (some ⟨w.heap.size+1,0,none⟩) [ayrS,buteS,qaQ]:=(yo (k:=1) (enc:=encS) (fun _=>rfl) [ayrS,buteS,qaQ] (w.alloc (Obj.cells #[.slice none 0 0,.slice none 0 0,.slice none 0 0,.slice none 0 0,.slice none 0 0] 28)) #[.string ayrS,.string buteS,.string qaQ] 9 rfl (w.heap.size+1) (by simp)).keep h1
 have c0:w1.cell? ⟨w.heap.size,0,none⟩=some (.slice none 0 0):=qb _ h1 (by go_cell)
 have f0:w1.frozen? ⟨w.heap.size,0,none⟩=false:=qd _ h1 (v:=.slice none 0 0) (by go_cell) (by go_cell)
 have c1:w1.cell? ⟨w.heap.size,1,none⟩=some (.slice none 0 0):=qb _ h1 (by go_cell)
 have f1:w1.frozen? ⟨w.heap.size,1,none⟩=false:=qd _ h1 (v:=.slice none 0 0) (by go_cell) (by go_cell)
 have c2:w1.cell? ⟨w.heap.size,2,none⟩=some (.slice none 0 0):=qb _ h1 (by go_cell)
 have f2:w1.frozen? ⟨w.heap.size,2,none⟩=false:=qd _ h1 (v:=.slice none 0 0) (by go_cell) (by go_cell)
 have c3:w1.cell? ⟨w.heap.size,3,none⟩=some (.slice none 0 0):=qb _ h1 (by go_cell)
 have f3:w1.frozen? ⟨w.heap.size,3,none⟩=false:=qd _ h1 (v:=.slice none 0 0) (by go_cell) (by go_cell)
 have c4:w1.cell? ⟨w.heap.size,4,none⟩=some (.slice none 0 0):=qb _ h1 (by go_cell)
 have f4:w1.frozen? ⟨w.heap.size,4,none⟩=false:=qd _ h1 (v:=.slice none 0 0) (by go_cell) (by go_cell)
 have z1:=h1.size
 simp at z1
 clear h1
 go_wp2
 go_at_call 32
 refine (hto _ _ _).mono ?_
 rintro e w2 ⟨rfl,h2⟩
 have f0:=qd _ h2 c0 f0
 have c0:=qb _ h2 c0
 have f1:=qd _ h2 c1 f1
 have c1:=qb _ h2 c1
 have f2:=qd _ h2 c2 f2
 have c2:=qb _ h2 c2
 have f3:=qd _ h2 c3 f3
 have c3:=qb _ h2 c3
 have f4:=qd _ h2 c4 f4
 have c4:=qb _ h2 c4
 have B2:=bcl B1 h2
 have T2:=T1.keep h2
 have z2:=h2.size
 clear B1 T1 h2
 go_wp2
 go_at_call 32
 refine (hto _ _ _).mono ?_
 rintro e w3 ⟨rfl,h3⟩
 have f0:=qd _ h3 c0 f0
 have c0:=qb _ h3 c0
 have f1:=qd _ h3 c1 f1
 have c1:=qb _ h3 c1
 have f2:=qd _ h3 c2 f2
 have c2:=qb _ h3 c2
 have f3:=qd _ h3 c3 f3
 have c3:=qb _ h3 c3
 have f4:=qd _ h3 c4 f4
 have c4:=qb _ h3 c4
 have B3:=bcl B2 h3
 have T3:=T2.keep h3
 have z3:=h3.size
 clear B2 T2 h3 hto
 have hB8:Below w3.heap.size w3 (exA w3):=by unfold exA;go_grown
 have hm:w.heap.size+2≤w3.heap.size:=by omega
 have d0:=qb _ hB8 c0
 have e0:=qd _ hB8 c0 f0
 have d1:=qb _ hB8 c1
 have e1:=qd _ hB8 c1 f1
 have d2:=qb _ hB8 c2
 have e2:=qd _ hB8 c2 f2
 have d3:=qb _ hB8 c3
 have e3:=qd _ hB8 c3 f3
 have d4:=qb _ hB8 c4
 have e4:=qd _ hB8 c4 f4
 have R0:qh (exA w3) 4 XR (some ⟨w3.heap.size+0,0,none⟩) [⟨0,1,1,1⟩,⟨0,2,1,2⟩,⟨2,1,1,1⟩]:=by
  unfold exA
  exact (yo (k:=4) (enc:=XR) (fun _=>rfl) _ _ _ _ (by rfl) _ (by simp)).more.more.more.more.more.more.more
 have R1:qh (exA w3) 1 encI (some ⟨w3.heap.size+1,0,none⟩) [0]:=by
  unfold exA
  exact (yo (k:=1) (enc:=encI) (fun _=>rfl) _ _ _ _ (by rfl) _ (by simp)).more.more.more.more.more.more
 have R2:qh (exA w3) 1 encI (some ⟨w3.heap.size+2,0,none⟩) [1,2]:=by
  unfold exA
  exact (yo (k:=1) (enc:=encI) (fun _=>rfl) _ _ _ _ (by rfl) _ (by simp)).more.more.more.more.more
 have R3:qh (exA w3) 1 xY (some ⟨w3.heap.size+3,0,none⟩) [⟨[0],some ⟨w3.heap.size+1,0,none⟩,1⟩,⟨[1,2],some ⟨w3.heap.size+2,0,none⟩,2⟩]:=by
  unfold exA
  exact (yo (k:=1) (enc:=xY) (fun _=>rfl) _ _ _ _ (by rfl) _ (by simp)).more.more.more.more
 have R4:qh (exA w3) 1 encI (some ⟨w3.heap.size+4,0,none⟩) [1]:=by
  unfold exA
  exact (yo (k:=1) (enc:=encI) (fun _=>rfl) _ _ _ _ (by rfl) _ (by simp)).more.more.more
 have R5:qh (exA w3) 1 xY (some ⟨w3.heap.size+5,0,none⟩) [⟨[1],some ⟨w3.heap.size+4,0,none⟩,1⟩]:=by
  unfold exA
  exact (yo (k:=1) (enc:=xY) (fun _=>rfl) _ _ _ _ (by rfl) _ (by simp)).more.more
 have R6:qh (exA w3) 3 Zo (some ⟨w3.heap.size+6,0,none⟩) (exD (w.heap.size+1) w3.heap.size).os:=by
  unfold exA
  exact (yo (k:=3) (enc:=Zo) (fun _=>rfl) _ _ _ _ (by rfl) _ (by simp)).more
 have R7:qh (exA w3) 5 Qc (some ⟨w3.heap.size+7,0,none⟩) (exD (w.heap.size+1) w3.heap.size).cs:=by
  unfold exA
  exact (yo (k:=5) (enc:=Qc) (fun _=>rfl) _ _ _ _ (by rfl) _ (by simp))
 have HR:=Lib.hid (And.intro R0 (And.intro R1 (And.intro R2 (And.intro R3 (And.intro R4 (And.intro R5 (And.intro R6 R7)))))))
 have HB:=Lib.hid (And.intro hB8 (And.intro B3 T3))
 clear R0 R1 R2 R3 R4 R5 R6 R7 hB8 B3 T3
 unfold exA at d0 d1 d2 d3 d4 e0 e1 e2 e3 e4
 go_wp2
 refine LoadR.ret_c5 results26 jl xG rfl d0 d1 d2 d3 d4 ?_
 obtain ⟨R0,R1,R2,R3,R4,R5,R6,R7⟩:=HR.out
 refine ⟨Below.set5 (bcl HB.out.2.1 HB.out.1) (Nat.le_refl _),w.heap.size+1,w3.heap.size,rfl,?_⟩
 refine ⟨zD (HB.out.2.2.keep HB.out.1) (by omega),zD R0 (by omega),zD R6 (by omega),?_,?_,?_,zD R7 (by omega)⟩
 ·intro o ho
  simp only [exD,List.mem_cons,List.not_mem_nil,or_false] at ho
  rcases ho with rfl | rfl
  ·exact zD R3 (by omega)
  ·exact zD R5 (by omega)
 ·intro o ho x hx
  simp only [exD,List.mem_cons,List.not_mem_nil,or_false] at ho
  rcases ho with rfl | rfl
  all_goals simp only [List.mem_cons,List.not_mem_nil,or_false] at hx
  ·rcases hx with rfl | rfl
   ·exact zD R1 (by omega)
   ·exact zD R2 (by omega)
  ·subst hx
   exact zD R4 (by omega)
 ·intro h
  exact absurd h (by show ¬ (1:Nat)≤0;omega)
end Go.Proofs.Tryz
