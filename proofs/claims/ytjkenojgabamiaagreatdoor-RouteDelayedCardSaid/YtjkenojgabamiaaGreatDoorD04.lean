/-
  Lemmas about the program and the machine (D2 to Q12), upon which the last text of this claim rests; no condition.
-/
import Derived.Maps.AppendAt
import Derived.RangeFuncOwn
import Derived.DeepKeys
import Derived.LoopN
import Derived.Test.YtjkenojgabamiaaGreatDoorD03
set_option linter.unusedSimpArgs false
set_option linter.unusedVariables false
namespace Go.Proofs.Tryz
open Go Go.Load Go.LoadR Go.RowKit
theorem qaY {s:ByteArray}:∀(l m:List ByteArray) (i:Nat),XV s (l ++ m) i=if (l.any fun x=>s.toList == x.toList)=true then XV s l i else XV s m (i+l.length)
 | [],m,i=>by simp
 | x :: l,m,i=>by
   simp only [List.cons_append,XV,List.any_cons]
   have hsym:(x.toList == s.toList)=(s.toList == x.toList):=by
    rw [Bool.eq_iff_iff]
    simp only [beq_iff_eq]
    exact ⟨Eq.symm,Eq.symm⟩
   rw [hsym]
   by_cases hq:(s.toList == x.toList)=true
   ·simp only [hq,Bool.true_or,if_true]
   ·simp only [hq,Bool.false_eq_true,if_false,Bool.or_eq_true,false_or]
    rw [qaY l m (i+1),List.length_cons,show i+1+l.length=i+(l.length+1) by omega]
theorem YU {s:ByteArray}:∀(l:List ByteArray) (i:Nat),(l.any fun x=>s.toList == x.toList)=true→(i:Int)≤XV s l i∧XV s l i < i+l.length
 | [],_,h=>by simp at h
 | x :: l,i,h=>by
   simp only [List.any_cons,Bool.or_eq_true] at h
   unfold XV
   have hsym:(x.toList == s.toList)=(s.toList == x.toList):=by
    rw [Bool.eq_iff_iff]
    simp only [beq_iff_eq]
    exact ⟨Eq.symm,Eq.symm⟩
   rw [hsym]
   by_cases hx:(s.toList == x.toList)=true
   ·rw [if_pos hx]
    simp only [List.length_cons]
    omega
   ·rw [if_neg hx]
    have h2:=YU l (i+1) (h.resolve_left hx)
    simp only [List.length_cons]
    omega
theorem qaa {ts:List ByteArray} {k:Nat} {s:ByteArray} (h:ts[k]? = some s):XV s ts 0 < (k:Int)↔((ts.take k).any fun x=>s.toList == x.toList)=true:=by
 obtain ⟨hk,rfl⟩:=List.getElem?_eq_some_iff.1 h
 have e:ts=ts.take k ++ ts.drop k:=(List.take_append_drop k ts).symm
 have hl:(ts.take k).length=k:=by rw [List.length_take];omega
 have h1:=qaY (s:=ts[k]) (ts.take k) (ts.drop k) 0
 rw [← e] at h1
 rw [h1]
 by_cases ha:((ts.take k).any fun x=>ts[k].toList == x.toList)=true
 ·rw [if_pos ha]
  have:=YU (s:=ts[k]) (ts.take k) 0 ha
  exact ⟨fun _=>ha,fun _=>by omega⟩
 ·rw [if_neg ha]
  have:XV ts[k] (ts.drop k) (0+(ts.take k).length)=k:=by
   rw [hl,Nat.zero_add,XW h,if_pos (by simp)]
  rw [this]
  exact ⟨fun h=>absurd h (by omega),fun h=>absurd h ha⟩
set_option maxHeartbeats 2000000 in
set_option maxRecDepth 100000 in
theorem qcp (D:DayM) (w:World) (h:DayAt w D) (hs:DaySm D):Calls qj 61 #[dv D] w fun e w'=>e=.returned (.int .i64 (jN D))∧Below w.heap.size w w':=by
 have hts:=h.ts
 have hsm:=hs.ts
 have hnm:=hs.nm
 obtain ⟨R,hR⟩:∃R,jN D=R:=⟨_,rfl⟩
 rw [hR]
 unfold jN at hR
 unfold dv
 clear h hs
 obtain ⟨ts,ta,tc,gs,ga,gc,os,oa,oc,hs,ha,hc,cs,ca,cc⟩:=D
 simp only at *
 generalize Value.slice ga gs.length gc=x1
 generalize Value.slice oa os.length oc=x2
 generalize Value.slice ha hs.length hc=x3
 generalize Value.slice ca cs.length cc=x4
 have hwi:=YF ts.length 2 5
 obtain ⟨r,hr⟩:∃r,btw ts.length 2 5=r:=⟨_,rfl⟩
 rw [hr] at hwi hR
 cases r with
 | false =>
   simp at hR
   subst hR
   clear hts hnm
   go_enter (sf 61 f61),ntmps61
   go_wp2_with (go_at_call 59;(with_reducible refine (hwi _).mono ?_);rintro e w1 ⟨rfl,rfl⟩)
   go_ret
   exact ⟨rfl,by go_grown⟩
 | true =>
   have hlen:=zM.1 hr
   simp at hR
   have HR:=Lib.hid hR
   obtain ⟨b,o,rfl,hP⟩:=hts (by omega)
   have HP:=Lib.hid hP
   have HN:=Lib.hid hnm
   have HT:=Lib.hid hts
   clear hR hP hnm hr hts
   go_enter (sf 61 f61),ntmps61
   obtain ⟨W,hW⟩:∃W,w.alloc (Obj.cells #[.slice (some ⟨b,o,none⟩) ts.length tc,x1,x2,x3,x4] 28)=W:=⟨_,rfl⟩
   have k0:W.cell? ⟨w.heap.size,0,none⟩=some (.slice (some ⟨b,o,none⟩) ts.length tc):=by subst hW;go_cell
   have hBW:Below w.heap.size w W:=by subst hW;go_grown
   go_wp2_with (go_at_call 59;(with_reducible refine (hwi _).mono ?_);rintro e w1 ⟨rfl,rfl⟩)
   try rw [hW]
   clear hW
   go_loopw [3] (fun i wr=>∃k:Nat,i=.int .i64 k∧k≤ts.length∧Below W.heap.size W wr∧Hid (qY (qax ts) k (ts.drop k)=R)) (fun i _=>ts.length - (intOf i).toNat)
   case atStart=>exact ⟨0,rfl,by omega,Below.refl _ _,HR⟩
   case round =>
    obtain ⟨k,rfl,hk,hBr,HE⟩:=hrel
    have k0:=qb _ hBr k0
    have hBw:=bcl hBW hBr
    by_cases hlt:k < ts.length
    ·have hkc:(k:Int)≤(tc:Int):=by omega
     obtain ⟨s,hx⟩:∃x,ts[k]? = some x:=⟨ts[k],by simp [hlt]⟩
     have c0:=qb _ hBw (HP.out k s hx 0 _ rfl)
     simp only [Nat.mul_one,Nat.add_zero] at c0
     have hnm:=fun W=>qak s (HN.out s (List.mem_of_getElem? hx)) W
     have hix:=fun (W:World) (hB:Below w.heap.size w W)=>JI ts s (some ⟨b,o,none⟩) tc (by omega) (by omega) W (HT.out.keep hB)
     have hbef:=qaa hx
     have hA:=HE.out
     rw [zB _ hx] at hA
     obtain ⟨r1,h1⟩:∃r,Zt s=r:=⟨_,rfl⟩
     obtain ⟨r2,h2⟩:∃r,((ts.take k).any fun x=>s.toList == x.toList)=r:=⟨_,rfl⟩
     obtain ⟨I,hI⟩:∃I,XV s ts 0=I:=⟨_,rfl⟩
     have ht:qax ts k s=if r1=false then 4 else if r2=true then 5 else 0:=by unfold qax;rw [h1,h2]
     rw [ht] at hA
     simp only [h1] at hnm
     rw [h2,hI] at hbef
     simp only [hI] at hix
     clear ht h1 h2 hx hI
     have HA:=Lib.hid hA
     have HX:=Lib.hid hix
     clear hA hix
     cases r1 with
     | false =>
       clear hbef
       go_wp2_with (go_at_call 95;(with_reducible refine (hnm _).mono ?_);rintro e w1 ⟨rfl,rfl⟩)
       go_ret
       exact ⟨by have e:=HA.out;simp at e;rw [← e];rfl,hBw⟩
     | true =>
       have hS:RH2 wr ⟨w.heap.size,0,none⟩ ⟨b,o+k,none⟩ (.slice (some ⟨b,o,none⟩) ts.length tc) (.string s) wr:=⟨k0,c0,Below.refl _ _⟩
       obtain ⟨q,hq⟩:∃q,decide (I < (k:Int))=q:=⟨_,rfl⟩
       have hq2:r2=q:=by
        cases r2 with
        | true=>rw [← hq];exact (decide_eq_true (hbef.2 rfl)).symm
        | false=>rw [← hq];exact (decide_eq_false (fun h=>by cases hbef.1 h)).symm
       subst hq2
       clear hbef
       go_upto_region 8 with (go_at_call 95;(with_reducible refine (hnm _).mono ?_);rintro e w1 ⟨rfl,rfl⟩)
       refine wp_region_held_drew (S:=(RH2 wr ⟨w.heap.size,0,none⟩ ⟨b,o+k,none⟩ (.slice (some ⟨b,o,none⟩) ts.length tc) (.string s))) (by kernel_rfl) (by exact RHL.drew hS) (fun hHeld=>?_)
       (refine tk 0 ?_;try simp only [zs,Act.put])
       (refine tk 1 ?_;try simp only [zs,Act.put])
       (refine tk 2 ?_;try simp only [zs,Act.put])
       (refine tk 3 ?_;try simp only [zs,Act.put])
       (refine tk 4 ?_;try simp only [zs,Act.put])
       (refine tk 5 ?_;try simp only [zs,Act.put])
       (refine tk 6 ?_;try simp only [zs,Act.put])
       (refine tk 8 ?_;try simp only [zs,Act.put])
       refine wpAnyH_ready (rs:=[7]) (by kernel_rfl) (by simp) ?_;refine AllReadyH.cons rfl (fun K hK=>?_) AllReadyH.nil;go_simp;go_wp2_with (go_at_call 96;(with_reducible refine (HX.out _ (bcl hBw (RHL.bel hHeld))).mono ?_);rintro e w2 ⟨rfl,rfl⟩);refine hK.out _ _ (by exact hHeld) (fun hHeldN=>?_);clear hK K hHeld;have hHeld:=hHeldN;clear hHeldN;try simp only [zs,Act.put]
       (refine tk 9 ?_;try simp only [zs,Act.put])
       refine wpAnyH_done (by kernel_rfl) ?_ _;try simp only [zs,Act.put]
       have hBx:=RHL.bel hHeld
       try rw [hq]
       clear hHeld hS hq
       cases r2 with
       | true =>
         go_wp2
         go_ret
         exact ⟨by have e:=HA.out;simp at e;rw [← e];rfl,bcl hBw hBx⟩
       | false =>
         go_wp2
         go_roundw
         case rel=>exact ⟨k+1,rfl,by omega,bcl hBr hBx,Lib.hid (by simpa using HA.out)⟩
         case measure=>simp [intOf];omega
    ·obtain rfl:k=ts.length:=by omega
     have hA:=HE.out
     rw [List.drop_eq_nil_of_le (Nat.le_refl _)] at hA
     have HA:=Lib.hid hA
     clear hA
     go_wp2
     go_ret
     exact ⟨by have e:=HA.out;simp [qY] at e;rw [← e];rfl,hBw⟩
theorem grpA_doc (n:Nat) (g:GrpM):grpA n g=if zJ n g.one g.two≠0 then zJ n g.one g.two else if jV g.lo g.hi 0 6=false then 1 else if 3≤g.hi - g.lo then 1 else 0:=by
 unfold grpA jV
 by_cases a:zJ n g.one g.two=0 <;> by_cases b:g.lo < 0 <;> by_cases c:g.hi < g.lo <;> by_cases d:6 < g.hi <;> by_cases e:3≤g.hi - g.lo <;> simp [a,b,c,d,e] <;> omega
set_option maxHeartbeats 2000000 in
set_option maxRecDepth 100000 in
theorem qap (D:DayM) (w:World) (h:DayAt w D) (hs:DaySm D):Calls qj 62 #[dv D] w fun e w'=>e=.returned (.int .i64 (zS D))∧Below w.heap.size w w':=by
 have hgs:=h.gs
 have hsm:=hs.gs
 have htl:=hs.ts.1
 obtain ⟨R,hR⟩:∃R,zS D=R:=⟨_,rfl⟩
 rw [hR]
 unfold zS at hR
 unfold dv
 clear h hs
 obtain ⟨ts,ta,tc,gs,ga,gc,os,oa,oc,hs,ha,hc,cs,ca,cc⟩:=D
 simp only at *
 generalize Value.slice oa os.length oc=x2
 generalize Value.slice ha hs.length hc=x3
 generalize Value.slice ca cs.length cc=x4
 have hen:=fun one two=>Yk ta ts.length tc (by omega) (.slice ga gs.length gc) x2 x3 x4 one two
 generalize hN:ts.length=N at *
 clear hN
 by_cases hlen:4 < gs.length
 ·simp [hlen] at hR
  subst hR
  clear hgs
  go_enter (sf 62 f62),ntmps62
  go_wp2
  go_ret
  exact ⟨rfl,by go_grown⟩
 ·simp [hlen] at hR
  have HR:=Lib.hid hR
  have HT:=Lib.hid hgs
  clear hR hgs
  go_enter (sf 62 f62),ntmps62
  obtain ⟨W,hW⟩:∃W,w.alloc (Obj.cells #[.slice ta N tc,.slice ga gs.length gc,x2,x3,x4] 28)=W:=⟨_,rfl⟩
  have h5:B5 W w.heap.size (.slice ta N tc) (.slice ga gs.length gc) x2 x3 x4:=by subst hW;exact B5.new ..
  have hBW:Below w.heap.size w W:=by subst hW;go_grown
  have k1:=h5.c1
  go_wp2
  try rw [hW]
  clear hW k1
  go_loopw [3] (fun i wr=>∃k:Nat,i=.int .i64 k∧k≤gs.length∧Below W.heap.size W wr∧Hid (qY (fun _ g=>grpA N g) k (gs.drop k)=R)) (fun i _=>gs.length - (intOf i).toNat)
  case atStart=>exact ⟨0,rfl,by omega,Below.refl _ _,HR⟩
  case round =>
   obtain ⟨k,rfl,hk,hBr,HE⟩:=hrel
   obtain ⟨k0,k1,k2,k3,k4⟩:=h5.keep hBr
   have hBw:=bcl hBW hBr
   have hz:=lt_of_cell k0
   have hzW:=hBr.size
   simp only at hz
   by_cases hlt:k < gs.length
   ·obtain ⟨b,o,rfl,hP⟩:=HT.out (by omega)
    obtain ⟨g,hx⟩:∃x,gs[k]? = some x:=⟨gs[k],by simp [hlt]⟩
    have hkc:(k:Int)≤(gc:Int):=by omega
    have c0:=qb _ hBw (hP k g hx 0 _ rfl)
    have c1:=qb _ hBw (hP k g hx 1 _ rfl)
    have c2:=qb _ hBw (hP k g hx 2 _ rfl)
    have c3:=qb _ hBw (hP k g hx 3 _ rfl)
    simp only [Nat.add_zero] at c0
    have hA:=HE.out
    rw [zB _ hx,grpA_doc] at hA
    clear hP hx
    obtain ⟨one,two,lo,hi⟩:=g
    have hen:=hen one two
    have hins:=qbw lo hi 0 6
    have hwr:jV lo hi 0 6=true→wrap64 (hi - lo)=hi - lo:=fun h=>by unfold jV at h;simp at h;unfold wrap64;omega
    simp only at *
    generalize jV lo hi 0 6=r1 at *
    generalize zJ N one two=E at *
    by_cases g1:E=0
    ·subst g1
     simp only [ne_eq,not_true_eq_false,if_false] at hA
     cases r1 with
     | false =>
       have HA:=Lib.hid hA
       clear hA hwr
       (go_upto_region 10 with (go_at_call 97;(with_reducible refine (hen _).mono ?_);rintro e w1 ⟨rfl,hB1⟩;have hB2:=Below.call (B:=w.heap.size) (w:=w) (by go_grown) hB1 (Nat.le_refl _);have hB3:=Below.call (B:=W.heap.size) (w:=W) (by go_grown) hB1 (Nat.le_refl _);obtain ⟨hc,hg⟩:=zH hB1;have hz1:=hB1.size;simp at hz1));go_wp2;(go_at_call 98;(with_reducible refine (hins _).mono ?_);rintro e w2 ⟨rfl,hB4⟩;have hB5:=Below.call (B:=w.heap.size) (w:=w) (by first | exact hB2 | go_grown) hB4 (Nat.le_refl _);have hB6:=Below.call (B:=W.heap.size) (w:=W) (by first | exact hB3 | go_grown) hB4 (Nat.le_refl _);obtain ⟨hc2,hg2⟩:=zH hB4;have hz2:=hB4.size;have hz3:wr.heap.size < w1.heap.size:=(by omega));go_wp2
       go_ret
       exact ⟨by have e:=HA.out;simp at e;rw [← e];rfl,by first | exact hB5 | go_grown⟩
     | true =>
       have hwr:=hwr rfl
       by_cases h3:3≤hi - lo
       ·have HA:=Lib.hid hA
        clear hA
        (go_upto_region 10 with (go_at_call 97;(with_reducible refine (hen _).mono ?_);rintro e w1 ⟨rfl,hB1⟩;have hB2:=Below.call (B:=w.heap.size) (w:=w) (by go_grown) hB1 (Nat.le_refl _);have hB3:=Below.call (B:=W.heap.size) (w:=W) (by go_grown) hB1 (Nat.le_refl _);obtain ⟨hc,hg⟩:=zH hB1;have hz1:=hB1.size;simp at hz1));go_wp2;(go_at_call 98;(with_reducible refine (hins _).mono ?_);rintro e w2 ⟨rfl,hB4⟩;have hB5:=Below.call (B:=w.heap.size) (w:=w) (by first | exact hB2 | go_grown) hB4 (Nat.le_refl _);have hB6:=Below.call (B:=W.heap.size) (w:=W) (by first | exact hB3 | go_grown) hB4 (Nat.le_refl _);obtain ⟨hc2,hg2⟩:=zH hB4;have hz2:=hB4.size;have hz3:wr.heap.size < w1.heap.size:=(by omega));go_wp2
        go_ret
        exact ⟨by have e:=HA.out;simp [h3] at e;rw [← e];rfl,by first | exact hB5 | go_grown⟩
       ·have HA:=Lib.hid hA
        clear hA
        (go_upto_region 10 with (go_at_call 97;(with_reducible refine (hen _).mono ?_);rintro e w1 ⟨rfl,hB1⟩;have hB2:=Below.call (B:=w.heap.size) (w:=w) (by go_grown) hB1 (Nat.le_refl _);have hB3:=Below.call (B:=W.heap.size) (w:=W) (by go_grown) hB1 (Nat.le_refl _);obtain ⟨hc,hg⟩:=zH hB1;have hz1:=hB1.size;simp at hz1));go_wp2;(go_at_call 98;(with_reducible refine (hins _).mono ?_);rintro e w2 ⟨rfl,hB4⟩;have hB5:=Below.call (B:=w.heap.size) (w:=w) (by first | exact hB2 | go_grown) hB4 (Nat.le_refl _);have hB6:=Below.call (B:=W.heap.size) (w:=W) (by first | exact hB3 | go_grown) hB4 (Nat.le_refl _);obtain ⟨hc2,hg2⟩:=zH hB4;have hz2:=hB4.size;have hz3:wr.heap.size < w1.heap.size:=(by omega));go_wp2
        go_roundw
        case rel=>exact ⟨k+1,rfl,by omega,(by first | exact hB6 | go_grown),Lib.hid (by simpa [h3] using HA.out)⟩
        case measure=>simp [intOf];omega
    ·have g2:(E != 0)=true:=by simpa using g1
     have HA:=Lib.hid hA
     clear hA hwr
     go_wp2_with (go_at_call 97;(with_reducible refine (hen _).mono ?_);rintro e w1 ⟨rfl,hB1⟩;have hB2:=Below.call (B:=w.heap.size) (w:=w) (by go_grown) hB1 (Nat.le_refl _);have hB3:=Below.call (B:=W.heap.size) (w:=W) (by go_grown) hB1 (Nat.le_refl _);obtain ⟨hc,hg⟩:=zH hB1;have hz1:=hB1.size;simp at hz1)
     go_ret
     exact ⟨by have e:=HA.out;simp [g1] at e;rw [← e];rfl,by first | exact hB2 | go_grown⟩
   ·obtain rfl:k=gs.length:=by omega
    have hA:=HE.out
    rw [List.drop_eq_nil_of_le (Nat.le_refl _)] at hA
    have HA:=Lib.hid hA
    clear hA
    go_wp2
    go_ret
    exact ⟨by have e:=HA.out;simp [qY] at e;rw [← e];rfl,hBw⟩
set_option maxHeartbeats 2000000 in
set_option maxRecDepth 100000 in
theorem qcm (D:DayM) (w:World) (h:DayAt w D) (hs:DaySm D):Calls qj 64 #[dv D] w fun e w'=>e=.returned (.int .i64 (xR D))∧Below w.heap.size w w':=by
 have hhs:=h.hs
 have hsm:=hs.hs
 have htl:=hs.gs.1
 obtain ⟨R,hR⟩:∃R,xR D=R:=⟨_,rfl⟩
 rw [hR]
 unfold xR at hR
 unfold dv
 clear h hs
 obtain ⟨ts,ta,tc,gs,ga,gc,os,oa,oc,hs,ha,hc,cs,ca,cc⟩:=D
 simp only at *
 generalize Value.slice ta ts.length tc=x2
 generalize Value.slice oa os.length oc=x3
 generalize Value.slice ca cs.length cc=x4
 generalize hN:gs.length=N at *
 clear hN
 by_cases hlen:3 < hs.length
 ·simp [hlen] at hR
  subst hR
  clear hhs
  go_enter (sf 64 f64),ntmps64
  go_wp2
  go_ret
  exact ⟨rfl,by go_grown⟩
 ·simp [hlen] at hR
  have HR:=Lib.hid hR
  have HT:=Lib.hid hhs
  clear hR hhs
  go_enter (sf 64 f64),ntmps64
  obtain ⟨W,hW⟩:∃W,w.alloc (Obj.cells #[x2,.slice ga N gc,x3,.slice ha hs.length hc,x4] 28)=W:=⟨_,rfl⟩
  have h5:B5 W w.heap.size x2 (.slice ga N gc) x3 (.slice ha hs.length hc) x4:=by subst hW;exact B5.new ..
  have hBW:Below w.heap.size w W:=by subst hW;go_grown
  have k1:=h5.c3
  go_wp2
  try rw [hW]
  clear hW k1
  go_loopw [3] (fun i wr=>∃k:Nat,i=.int .i64 k∧k≤hs.length∧Below W.heap.size W wr∧Hid (qY (fun _ h=>hldA N h) k (hs.drop k)=R)) (fun i _=>hs.length - (intOf i).toNat)
  case atStart=>exact ⟨0,rfl,by omega,Below.refl _ _,HR⟩
  case round =>
   obtain ⟨k,rfl,hk,hBr,HE⟩:=hrel
   obtain ⟨k0,k1,k2,k3,k4⟩:=h5.keep hBr
   have hBw:=bcl hBW hBr
   have hz:=lt_of_cell k0
   have hzW:=hBr.size
   simp only at hz
   by_cases hlt:k < hs.length
   ·obtain ⟨b,o,rfl,hP⟩:=HT.out (by omega)
    obtain ⟨h,hx⟩:∃x,hs[k]? = some x:=⟨hs[k],by simp [hlt]⟩
    have hkc:(k:Int)≤(hc:Int):=by omega
    have c0:=qb _ hBw (hP k h hx 0 _ rfl)
    have c1:=qb _ hBw (hP k h hx 1 _ rfl)
    have c2:=qb _ hBw (hP k h hx 2 _ rfl)
    have c3:=qb _ hBw (hP k h hx 3 _ rfl)
    simp only [Nat.add_zero] at c0
    have hA:=HE.out
    rw [zB _ hx] at hA
    clear hP hx
    obtain ⟨hg,hm,hb,he⟩:=h
    have hw1:=Qz hg N (by omega) (by omega)
    have hw2:=YF hm 1 6
    have hw3:=Qt hb
    have hw4:=Qt he
    rw [show hldA N ⟨hg,hm,hb,he⟩=(if btw hg 0 ((N:Int) - 1)=false then (6:Int) else if (btw hm 1 6 && btw hb 0 99 && btw he 0 99)=false then 1 else if he≤hb then 7 else 0) from rfl] at hA
    simp only at *
    generalize btw hg 0 ((N:Int) - 1)=r1 at *
    generalize btw hm 1 6=r2 at *
    generalize btw hb 0 99=r3 at *
    generalize btw he 0 99=r4 at *
    have HA:=Lib.hid hA
    clear hA
    cases r1
    ·go_wp2_with (first | (go_at_call 41;(with_reducible refine (hw1 _).mono ?_);rintro e w1 ⟨rfl,rfl⟩) | (go_at_call 59;(with_reducible refine (hw2 _).mono ?_);rintro e w1 ⟨rfl,rfl⟩) | (go_at_call 52;(with_reducible refine (hw3 _).mono ?_);rintro e w1 ⟨rfl,rfl⟩) | (go_at_call 52;(with_reducible refine (hw4 _).mono ?_);rintro e w1 ⟨rfl,rfl⟩))
     go_ret
     exact ⟨by have e:=HA.out;simp at e;rw [← e];rfl,by go_grown⟩
    cases r2
    ·go_wp2_with (first | (go_at_call 41;(with_reducible refine (hw1 _).mono ?_);rintro e w1 ⟨rfl,rfl⟩) | (go_at_call 59;(with_reducible refine (hw2 _).mono ?_);rintro e w1 ⟨rfl,rfl⟩) | (go_at_call 52;(with_reducible refine (hw3 _).mono ?_);rintro e w1 ⟨rfl,rfl⟩) | (go_at_call 52;(with_reducible refine (hw4 _).mono ?_);rintro e w1 ⟨rfl,rfl⟩))
     go_ret
     exact ⟨by have e:=HA.out;simp at e;rw [← e];rfl,by go_grown⟩
    cases r3
    ·go_wp2_with (first | (go_at_call 41;(with_reducible refine (hw1 _).mono ?_);rintro e w1 ⟨rfl,rfl⟩) | (go_at_call 59;(with_reducible refine (hw2 _).mono ?_);rintro e w1 ⟨rfl,rfl⟩) | (go_at_call 52;(with_reducible refine (hw3 _).mono ?_);rintro e w1 ⟨rfl,rfl⟩) | (go_at_call 52;(with_reducible refine (hw4 _).mono ?_);rintro e w1 ⟨rfl,rfl⟩))
     go_ret
     exact ⟨by have e:=HA.out;simp at e;rw [← e];rfl,by go_grown⟩
    cases r4
    ·go_wp2_with (first | (go_at_call 41;(with_reducible refine (hw1 _).mono ?_);rintro e w1 ⟨rfl,rfl⟩) | (go_at_call 59;(with_reducible refine (hw2 _).mono ?_);rintro e w1 ⟨rfl,rfl⟩) | (go_at_call 52;(with_reducible refine (hw3 _).mono ?_);rintro e w1 ⟨rfl,rfl⟩) | (go_at_call 52;(with_reducible refine (hw4 _).mono ?_);rintro e w1 ⟨rfl,rfl⟩))
     go_ret
     exact ⟨by have e:=HA.out;simp at e;rw [← e];rfl,by go_grown⟩
    by_cases hle:he≤hb
    ·go_wp2_with (first | (go_at_call 41;(with_reducible refine (hw1 _).mono ?_);rintro e w1 ⟨rfl,rfl⟩) | (go_at_call 59;(with_reducible refine (hw2 _).mono ?_);rintro e w1 ⟨rfl,rfl⟩) | (go_at_call 52;(with_reducible refine (hw3 _).mono ?_);rintro e w1 ⟨rfl,rfl⟩) | (go_at_call 52;(with_reducible refine (hw4 _).mono ?_);rintro e w1 ⟨rfl,rfl⟩))
     go_ret
     exact ⟨by have e:=HA.out;simp [hle] at e;rw [← e];rfl,by go_grown⟩
    ·go_wp2_with (first | (go_at_call 41;(with_reducible refine (hw1 _).mono ?_);rintro e w1 ⟨rfl,rfl⟩) | (go_at_call 59;(with_reducible refine (hw2 _).mono ?_);rintro e w1 ⟨rfl,rfl⟩) | (go_at_call 52;(with_reducible refine (hw3 _).mono ?_);rintro e w1 ⟨rfl,rfl⟩) | (go_at_call 52;(with_reducible refine (hw4 _).mono ?_);rintro e w1 ⟨rfl,rfl⟩))
     go_roundw
     case rel=>exact ⟨k+1,rfl,by omega,by go_grown,Lib.hid (by simpa [hle] using HA.out)⟩
     case measure=>simp [intOf];omega
   ·obtain rfl:k=hs.length:=by omega
    have hA:=HE.out
    rw [List.drop_eq_nil_of_le (Nat.le_refl _)] at hA
    have HA:=Lib.hid hA
    clear hA
    go_wp2
    go_ret
    exact ⟨by have e:=HA.out;simp [qY] at e;rw [← e];rfl,hBw⟩
end Go.Proofs.Tryz
namespace Go.Proofs.Tryz
open Go Go.Load Go.RowKit
structure PastM where
 a:Int
 b:Int
 c:Int
 d:Int
deriving DecidableEq
def QK (p:PastM):List Value:=[.int .i64 p.a,.int .i64 p.b,.int .i64 p.c,.int .i64 p.d]
def Zq {α:Type} (p:α→Bool) (l:List α):Int:=match l.findIdx? p with
 | some k=>k
 | none=>-1
theorem Xp {α:Type} {p:α→Bool} {l:List α} {k:Nat} {x:α} (h:l[k]? = some x) (hn:(l.take k).any p=false) (hp:p x=true):Zq p l=k:=by
 unfold Zq
 have:l.findIdx? p=some k:=by
  rw [List.findIdx?_eq_some_iff_getElem]
  obtain ⟨hk,rfl⟩:=List.getElem?_eq_some_iff.1 h
  refine ⟨hk,hp,fun j hj=>?_⟩
  rw [List.any_eq_false] at hn
  have:=hn l[j] (List.mem_take_iff_getElem.2 ⟨j,by omega,rfl⟩)
  simpa using this
 rw [this]
theorem Qj {α:Type} {p:α→Bool} {l:List α} (h:l.any p=false):Zq p l=-1:=by
 unfold Zq
 have:l.findIdx? p=none:=by
  rw [List.findIdx?_eq_none_iff]
  rw [List.any_eq_false] at h
  intro x hx
  simpa using h x hx
 rw [this]
theorem JZ {α:Type} (p:α→Bool) (l:List α):(0≤Zq p l)↔l.any p=true:=by
 unfold Zq
 cases h:l.findIdx? p with
 | none =>
   rw [List.findIdx?_eq_none_iff] at h
   simp only [List.any_eq_true]
   constructor
   ·intro h;omega
   ·rintro ⟨x,hx,hp⟩;rw [h x hx] at hp;cases hp
 | some k =>
   obtain ⟨hk,hp,_⟩:=List.findIdx?_eq_some_iff_getElem.1 h
   exact ⟨fun _=>List.any_eq_true.2 ⟨_,List.getElem_mem hk,hp⟩,fun _=>Int.natCast_nonneg k⟩
theorem idxN_lt {α:Type} (p:α→Bool) (l:List α):Zq p l < l.length:=by
 unfold Zq
 cases h:l.findIdx? p with
 | none=>simp only;omega
 | some k =>
   obtain ⟨hk,hp,_⟩:=List.findIdx?_eq_some_iff_getElem.1 h
   simp only;omega
set_option maxHeartbeats 1000000 in
theorem indexOrd (fid:FuncId) (bound:Array Value) (hf:∀(args:Array Value) (w:World),(callFunc fid args).run qj w=.ok (.enter fid args) w) (p:OrdM→Bool) (l:List OrdM) (a:Option Addr) (c:Nat) (hlen:l.length≤1000) (I:World→Prop) (hI:∀W,I W→qh W 3 Zo a l) (w:World) (hw:I w)
 (hcall:∀(i:Nat) (x:OrdM),l[i]? = some x→∀W,I W→Calls qj fid (#[.agg #[.int .i64 x.fr,.int .i64 x.toT,.slice x.a x.ws.length x.c]] ++ bound) W fun e w'=>e=.returned (.bool (p x))∧I w') :
 Calls qj 116 #[.slice a l.length c,.func (.func fid) #[] bound] w fun e w'=>e=.returned (.int .i64 (Zq p l))∧I w':=by
 obtain ⟨R,hR⟩:∃R,Zq p l=R:=⟨_,rfl⟩
 rw [hR]
 have HR:=Lib.hid hR
 clear hR
 go_enter (sf 116 f116),ntmps116
 go_wp2
 go_loopw [8] (fun i wr=>∃k:Nat,i=.int .i64 k∧k≤l.length∧I wr∧Hid ((l.take k).any p=false)) (fun i _=>l.length - (intOf i).toNat)
 case atStart=>exact ⟨0,rfl,Nat.zero_le _,hw,Lib.hid (by simp)⟩
 case round =>
  obtain ⟨k,rfl,hk,hB,HN⟩:=hrel
  by_cases hlt:k < l.length
  ·obtain ⟨b,o,rfl,hP⟩:=hI wr hB (by omega)
   obtain ⟨x,hx⟩:∃x,l[k]? = some x:=⟨l[k],by simp [hlt]⟩
   have c0:=hP k x hx 0 _ rfl
   have c1:=hP k x hx 1 _ rfl
   have c2:=hP k x hx 2 _ rfl
   simp only [Nat.add_zero] at c0
   have hcall:=hcall k x hx wr hB
   have HX:=Lib.hid hx
   clear hP hx hI
   obtain ⟨r,hr⟩:∃r,p x=r:=⟨_,rfl⟩
   rw [hr] at hcall
   have HR2:=Lib.hid hr
   clear hr
   obtain ⟨args,hargs⟩:∃args,(#[.agg #[.int .i64 x.fr,.int .i64 x.toT,.slice x.a x.ws.length x.c]] ++ bound)=args:=⟨_,rfl⟩
   rw [hargs] at hcall
   cases r with
   | true =>
     go_wp2_with ((first | (rw [hargs]) | skip);(with_reducible refine hcall.mono ?_);rintro e w1 ⟨rfl,hB1⟩)
     go_ret
     exact ⟨by rw [← HR.out,Xp HX.out HN.out HR2.out];rfl,hB1⟩
   | false =>
     go_wp2_with ((first | (rw [hargs]) | skip);(with_reducible refine hcall.mono ?_);rintro e w1 ⟨rfl,hB1⟩)
     go_roundw
     case rel=>exact ⟨k+1,rfl,by omega,hB1,Lib.hid (by rw [any_take_succ p HX.out HN.out];exact HR2.out)⟩
     case measure=>simp [intOf];omega
  ·obtain rfl:k=l.length:=by omega
   have hany:=HN.out
   rw [List.take_length] at hany
   have HA:=Lib.hid hany
   clear hany
   go_wp2
   go_ret
   exact ⟨by rw [← HR.out,Qj HA.out];rfl,hB⟩
set_option maxHeartbeats 1000000 in
theorem indexInt (fid:FuncId) (bound:Array Value) (hf:∀(args:Array Value) (w:World),(callFunc fid args).run qj w=.ok (.enter fid args) w) (p:Int→Bool) (l:List Int) (a:Option Addr) (c:Nat) (hlen:l.length≤1000) (I:World→Prop) (hI:∀W,I W→qh W 1 encI a l) (w:World) (hw:I w)
 (hcall:∀(i:Nat) (x:Int),l[i]? = some x→∀W,I W→Calls qj fid (#[.int .i64 x] ++ bound) W fun e w'=>e=.returned (.bool (p x))∧I w') :
 Calls qj 118 #[.slice a l.length c,.func (.func fid) #[] bound] w fun e w'=>e=.returned (.int .i64 (Zq p l))∧I w':=by
 obtain ⟨R,hR⟩:∃R,Zq p l=R:=⟨_,rfl⟩
 rw [hR]
 have HR:=Lib.hid hR
 clear hR
 go_enter (sf 118 f118),ntmps118
 go_wp2
 go_loopw [8] (fun i wr=>∃k:Nat,i=.int .i64 k∧k≤l.length∧I wr∧Hid ((l.take k).any p=false)) (fun i _=>l.length - (intOf i).toNat)
 case atStart=>exact ⟨0,rfl,Nat.zero_le _,hw,Lib.hid (by simp)⟩
 case round =>
  obtain ⟨k,rfl,hk,hB,HN⟩:=hrel
  by_cases hlt:k < l.length
  ·obtain ⟨b,o,rfl,hP⟩:=hI wr hB (by omega)
   obtain ⟨x,hx⟩:∃x,l[k]? = some x:=⟨l[k],by simp [hlt]⟩
   have c0:=hP k x hx 0 _ rfl
   simp only [Nat.mul_one,Nat.add_zero] at c0
   have hcall:=hcall k x hx wr hB
   have HX:=Lib.hid hx
   clear hP hx hI
   obtain ⟨r,hr⟩:∃r,p x=r:=⟨_,rfl⟩
   rw [hr] at hcall
   have HR2:=Lib.hid hr
   clear hr
   obtain ⟨args,hargs⟩:∃args,(#[.int .i64 x] ++ bound)=args:=⟨_,rfl⟩
   rw [hargs] at hcall
   cases r with
   | true =>
     go_wp2_with ((first | (rw [hargs]) | skip);(with_reducible refine hcall.mono ?_);rintro e w1 ⟨rfl,hB1⟩)
     go_ret
     exact ⟨by rw [← HR.out,Xp HX.out HN.out HR2.out];rfl,hB1⟩
   | false =>
     go_wp2_with ((first | (rw [hargs]) | skip);(with_reducible refine hcall.mono ?_);rintro e w1 ⟨rfl,hB1⟩)
     go_roundw
     case rel=>exact ⟨k+1,rfl,by omega,hB1,Lib.hid (by rw [any_take_succ p HX.out HN.out];exact HR2.out)⟩
     case measure=>simp [intOf];omega
  ·obtain rfl:k=l.length:=by omega
   have hany:=HN.out
   rw [List.take_length] at hany
   have HA:=Lib.hid hany
   clear hany
   go_wp2
   go_ret
   exact ⟨by rw [← HR.out,Qj HA.out];rfl,hB⟩
set_option maxHeartbeats 1000000 in
theorem JQ (fid:FuncId) (bound:Array Value) (hf:∀(args:Array Value) (w:World),(callFunc fid args).run qj w=.ok (.enter fid args) w) (p:Int→Bool) (l:List Int) (a:Option Addr) (c:Nat) (hlen:l.length≤1000) (I:World→Prop) (hI:∀W,I W→qh W 1 encI a l) (w:World) (hw:I w)
 (hcall:∀(i:Nat) (x:Int),l[i]? = some x→∀W,I W→Calls qj fid (#[.int .i64 x] ++ bound) W fun e w'=>e=.returned (.bool (p x))∧I w') :
 Calls qj 89 #[.slice a l.length c,.func (.func fid) #[] bound] w fun e w'=>e=.returned (.bool (l.any p))∧I w':=by
 have hI:=indexInt fid bound hf p l a c hlen I hI w hw hcall
 have hge:=JZ p l
 clear hcall hw
 obtain ⟨r,hr⟩:∃r,l.any p=r:=⟨_,rfl⟩
 rw [hr] at hge ⊢
 generalize Zq p l=n at *
 cases r with
 | true =>
   have hn:0≤n:=hge.2 rfl
   clear hge
   go_enter (sf 89 f89),ntmps89
   go_wp2_with (go_at_call 118;(with_reducible refine hI.mono ?_);rintro e w1 ⟨rfl,hB1⟩)
   go_ret
   exact ⟨by simp [hn],hB1⟩
 | false =>
   have hn:¬ 0≤n:=fun h=>by have:=hge.1 h;cases this
   clear hge
   go_enter (sf 89 f89),ntmps89
   go_wp2_with (go_at_call 118;(with_reducible refine hI.mono ?_);rintro e w1 ⟨rfl,hB1⟩)
   go_ret
   exact ⟨by simp [hn],hB1⟩
set_option maxHeartbeats 1000000 in
theorem indexWay (fid:FuncId) (bound:Array Value) (hf:∀(args:Array Value) (w:World),(callFunc fid args).run qj w=.ok (.enter fid args) w) (p:WayM→Bool) (l:List WayM) (a:Option Addr) (c:Nat) (hlen:l.length≤1000) (I:World→Prop) (hI:∀W,I W→qh W 1 xY a l) (w:World) (hw:I w)
 (hcall:∀(i:Nat) (x:WayM),l[i]? = some x→∀W,I W→Calls qj fid (#[.slice x.a x.l.length x.c] ++ bound) W fun e w'=>e=.returned (.bool (p x))∧I w') :
 Calls qj 175 #[.slice a l.length c,.func (.func fid) #[] bound] w fun e w'=>e=.returned (.int .i64 (Zq p l))∧I w':=by
 obtain ⟨R,hR⟩:∃R,Zq p l=R:=⟨_,rfl⟩
 rw [hR]
 have HR:=Lib.hid hR
 clear hR
 go_enter (sf 175 f175),ntmps175
 go_wp2
 go_loopw [8] (fun i wr=>∃k:Nat,i=.int .i64 k∧k≤l.length∧I wr∧Hid ((l.take k).any p=false)) (fun i _=>l.length - (intOf i).toNat)
 case atStart=>exact ⟨0,rfl,Nat.zero_le _,hw,Lib.hid (by simp)⟩
 case round =>
  obtain ⟨k,rfl,hk,hB,HN⟩:=hrel
  by_cases hlt:k < l.length
  ·obtain ⟨b,o,rfl,hP⟩:=hI wr hB (by omega)
   obtain ⟨x,hx⟩:∃x,l[k]? = some x:=⟨l[k],by simp [hlt]⟩
   have c0:=hP k x hx 0 _ rfl
   simp only [Nat.mul_one,Nat.add_zero] at c0
   have hcall:=hcall k x hx wr hB
   have HX:=Lib.hid hx
   clear hP hx hI
   obtain ⟨r,hr⟩:∃r,p x=r:=⟨_,rfl⟩
   rw [hr] at hcall
   have HR2:=Lib.hid hr
   clear hr
   obtain ⟨args,hargs⟩:∃args,(#[.slice x.a x.l.length x.c] ++ bound)=args:=⟨_,rfl⟩
   rw [hargs] at hcall
   cases r with
   | true =>
     go_wp2_with ((first | (rw [hargs]) | skip);(with_reducible refine hcall.mono ?_);rintro e w1 ⟨rfl,hB1⟩)
     go_ret
     exact ⟨by rw [← HR.out,Xp HX.out HN.out HR2.out];rfl,hB1⟩
   | false =>
     go_wp2_with ((first | (rw [hargs]) | skip);(with_reducible refine hcall.mono ?_);rintro e w1 ⟨rfl,hB1⟩)
     go_roundw
     case rel=>exact ⟨k+1,rfl,by omega,hB1,Lib.hid (by rw [any_take_succ p HX.out HN.out];exact HR2.out)⟩
     case measure=>simp [intOf];omega
  ·obtain rfl:k=l.length:=by omega
   have hany:=HN.out
   rw [List.take_length] at hany
   have HA:=Lib.hid hany
   clear hany
   go_wp2
   go_ret
   exact ⟨by rw [← HR.out,Qj HA.out];rfl,hB⟩
set_option maxHeartbeats 1000000 in
theorem JR (fid:FuncId) (bound:Array Value) (hf:∀(args:Array Value) (w:World),(callFunc fid args).run qj w=.ok (.enter fid args) w) (p:WayM→Bool) (l:List WayM) (a:Option Addr) (c:Nat) (hlen:l.length≤1000) (I:World→Prop) (hI:∀W,I W→qh W 1 xY a l) (w:World) (hw:I w)
 (hcall:∀(i:Nat) (x:WayM),l[i]? = some x→∀W,I W→Calls qj fid (#[.slice x.a x.l.length x.c] ++ bound) W fun e w'=>e=.returned (.bool (p x))∧I w') :
 Calls qj 171 #[.slice a l.length c,.func (.func fid) #[] bound] w fun e w'=>e=.returned (.bool (l.any p))∧I w':=by
 have hI:=indexWay fid bound hf p l a c hlen I hI w hw hcall
 have hge:=JZ p l
 clear hcall hw
 obtain ⟨r,hr⟩:∃r,l.any p=r:=⟨_,rfl⟩
 rw [hr] at hge ⊢
 generalize Zq p l=n at *
 cases r with
 | true =>
   have hn:0≤n:=hge.2 rfl
   clear hge
   go_enter (sf 171 f171),ntmps171
   go_wp2_with (go_at_call 175;(with_reducible refine hI.mono ?_);rintro e w1 ⟨rfl,hB1⟩)
   go_ret
   exact ⟨by simp [hn],hB1⟩
 | false =>
   have hn:¬ 0≤n:=fun h=>by have:=hge.1 h;cases this
   clear hge
   go_enter (sf 171 f171),ntmps171
   go_wp2_with (go_at_call 175;(with_reducible refine hI.mono ?_);rintro e w1 ⟨rfl,hB1⟩)
   go_ret
   exact ⟨by simp [hn],hB1⟩
set_option maxHeartbeats 1000000 in
theorem qdt (fid:FuncId) (bound:Array Value) (hf:∀(args:Array Value) (w:World),(callFunc fid args).run qj w=.ok (.enter fid args) w) (p:PastM→Bool) (l:List PastM) (a:Option Addr) (c:Nat) (hlen:l.length≤1000) (I:World→Prop) (hI:∀W,I W→qh W 4 QK a l) (w:World) (hw:I w)
 (hcall:∀(i:Nat) (x:PastM),l[i]? = some x→∀W,I W→Calls qj fid (#[.agg #[.int .i64 x.a,.int .i64 x.b,.int .i64 x.c,.int .i64 x.d]] ++ bound) W fun e w'=>e=.returned (.bool (p x))∧I w') :
 Calls qj 109 #[.slice a l.length c,.func (.func fid) #[] bound] w fun e w'=>e=.returned (.int .i64 (Zq p l))∧I w':=by
 obtain ⟨R,hR⟩:∃R,Zq p l=R:=⟨_,rfl⟩
 rw [hR]
 have HR:=Lib.hid hR
 clear hR
 go_enter (sf 109 f109),ntmps109
 go_wp2
 go_loopw [8] (fun i wr=>∃k:Nat,i=.int .i64 k∧k≤l.length∧I wr∧Hid ((l.take k).any p=false)) (fun i _=>l.length - (intOf i).toNat)
 case atStart=>exact ⟨0,rfl,Nat.zero_le _,hw,Lib.hid (by simp)⟩
 case round =>
  obtain ⟨k,rfl,hk,hB,HN⟩:=hrel
  by_cases hlt:k < l.length
  ·obtain ⟨b,o,rfl,hP⟩:=hI wr hB (by omega)
   obtain ⟨x,hx⟩:∃x,l[k]? = some x:=⟨l[k],by simp [hlt]⟩
   have c0:=hP k x hx 0 _ rfl
   have c1:=hP k x hx 1 _ rfl
   have c2:=hP k x hx 2 _ rfl
   have c3:=hP k x hx 3 _ rfl
   simp only [Nat.add_zero] at c0
   have hcall:=hcall k x hx wr hB
   have HX:=Lib.hid hx
   clear hP hx hI
   obtain ⟨r,hr⟩:∃r,p x=r:=⟨_,rfl⟩
   rw [hr] at hcall
   have HR2:=Lib.hid hr
   clear hr
   obtain ⟨args,hargs⟩:∃args,(#[.agg #[.int .i64 x.a,.int .i64 x.b,.int .i64 x.c,.int .i64 x.d]] ++ bound)=args:=⟨_,rfl⟩
   rw [hargs] at hcall
   cases r with
   | true =>
     go_wp2_with ((first | (rw [hargs]) | skip);(with_reducible refine hcall.mono ?_);rintro e w1 ⟨rfl,hB1⟩)
     go_ret
     exact ⟨by rw [← HR.out,Xp HX.out HN.out HR2.out];rfl,hB1⟩
   | false =>
     go_wp2_with ((first | (rw [hargs]) | skip);(with_reducible refine hcall.mono ?_);rintro e w1 ⟨rfl,hB1⟩)
     go_roundw
     case rel=>exact ⟨k+1,rfl,by omega,hB1,Lib.hid (by rw [any_take_succ p HX.out HN.out];exact HR2.out)⟩
     case measure=>simp [intOf];omega
  ·obtain rfl:k=l.length:=by omega
   have hany:=HN.out
   rw [List.take_length] at hany
   have HA:=Lib.hid hany
   clear hany
   go_wp2
   go_ret
   exact ⟨by rw [← HR.out,Qj HA.out];rfl,hB⟩
set_option maxHeartbeats 1000000 in
theorem Zg (fid:FuncId) (bound:Array Value) (hf:∀(args:Array Value) (w:World),(callFunc fid args).run qj w=.ok (.enter fid args) w) (p:PastM→Bool) (l:List PastM) (a:Option Addr) (c:Nat) (hlen:l.length≤1000) (I:World→Prop) (hI:∀W,I W→qh W 4 QK a l) (w:World) (hw:I w)
 (hcall:∀(i:Nat) (x:PastM),l[i]? = some x→∀W,I W→Calls qj fid (#[.agg #[.int .i64 x.a,.int .i64 x.b,.int .i64 x.c,.int .i64 x.d]] ++ bound) W fun e w'=>e=.returned (.bool (p x))∧I w') :
 Calls qj 79 #[.slice a l.length c,.func (.func fid) #[] bound] w fun e w'=>e=.returned (.bool (l.any p))∧I w':=by
 have hI:=qdt fid bound hf p l a c hlen I hI w hw hcall
 have hge:=JZ p l
 clear hcall hw
 obtain ⟨r,hr⟩:∃r,l.any p=r:=⟨_,rfl⟩
 rw [hr] at hge ⊢
 generalize Zq p l=n at *
 cases r with
 | true =>
   have hn:0≤n:=hge.2 rfl
   clear hge
   go_enter (sf 79 f79),ntmps79
   go_wp2_with (go_at_call 109;(with_reducible refine hI.mono ?_);rintro e w1 ⟨rfl,hB1⟩)
   go_ret
   exact ⟨by simp [hn],hB1⟩
 | false =>
   have hn:¬ 0≤n:=fun h=>by have:=hge.1 h;cases this
   clear hge
   go_enter (sf 79 f79),ntmps79
   go_wp2_with (go_at_call 109;(with_reducible refine hI.mono ?_);rintro e w1 ⟨rfl,hB1⟩)
   go_ret
   exact ⟨by simp [hn],hB1⟩
def zY (c:CalM) (o:OrdM):Bool:=o.fr == c.fr && o.toT == c.toT
def zu (D:DayM) (c:CalM):Int:=Zq (zY c) D.os
def qJ (D:DayM) (c:CalM):OrdM:=match D.os.find? (zY c) with
 | some o=>o
 | none=>⟨0,0,[],none,0⟩
theorem zU {D:DayM} {c:CalM} (h:zu D c < 0):qJ D c=⟨0,0,[],none,0⟩:=by
 unfold zu Zq at h
 unfold qJ
 cases hf:D.os.findIdx? (zY c) with
 | none =>
   rw [List.findIdx?_eq_none_iff] at hf
   rw [List.find?_eq_none.2 (fun x hx=>by simp [hf x hx])]
 | some k=>rw [hf] at h;simp only at h;omega
theorem zV {D:DayM} {c:CalM} {k:Nat} (h:zu D c=k):D.os[k]? = some (qJ D c):=by
 unfold zu Zq at h
 cases hf:D.os.findIdx? (zY c) with
 | none=>rw [hf] at h;simp only at h;omega
 | some j =>
   rw [hf] at h
   simp only at h
   obtain rfl:j=k:=by omega
   obtain ⟨hj,hp,hn⟩:=List.findIdx?_eq_some_iff_getElem.1 hf
   have:D.os.find? (zY c)=some D.os[j]:=List.find?_eq_some_iff_getElem.2 ⟨hp,j,hj,rfl,fun i hi=>by simpa using hn i hi⟩
   unfold qJ
   rw [this,List.getElem?_eq_getElem hj]
def cvC (c:CalM):Value:=.agg #[.int .i64 c.fr,.int .i64 c.toT,.int .i64 c.co,.int .i64 c.cl,.int .i64 c.se]
theorem Jj (x:OrdM) (c:CalM) (b:Nat) (w:World) (h0:w.cell? ⟨b,0,none⟩=some (.int .i64 c.fr)) (h1:w.cell? ⟨b,1,none⟩=some (.int .i64 c.toT)) :
 Calls qj 117 #[.agg #[.int .i64 x.fr,.int .i64 x.toT,.slice x.a x.ws.length x.c],.pointer (some ⟨b,0,none⟩)] w fun e w'=>e=.returned (.bool (zY c x))∧Below w.heap.size w w':=by
 obtain ⟨f,t,ws,a,k⟩:=x
 obtain ⟨cf,ct,_,_,_⟩:=c
 simp only [zY] at *
 have hz:=lt_of_cell h0
 simp only at hz
 by_cases e1:f=cf
 ·subst e1
  by_cases e2:t=ct
  ·subst e2
   go_enter (sf 117 f117),ntmps117
   go_wp2
   go_ret
   exact ⟨by simp,by go_grown⟩
  ·have e3:(t == ct)=false:=by simpa using e2
   go_enter (sf 117 f117),ntmps117
   go_wp2
   go_ret
   exact ⟨by simp [e2],by go_grown⟩
 ·have e3:(f == cf)=false:=by simpa using e1
  go_enter (sf 117 f117),ntmps117
  go_wp2
  go_ret
  exact ⟨by simp [e1],by go_grown⟩
set_option maxHeartbeats 1000000 in
theorem qah (D:DayM) (m:Option Nat) (c:CalM) (w:World) (h:DayAt w D) (hs:DaySm D):Calls qj 88 #[dm D m,cvC c] w fun e w'=>e=.returned (.int .i64 (zu D c))∧Below w.heap.size w w':=by
 have hos:=h.os
 have hsm:=hs.os
 unfold zu
 have hI:=fun W (hB:Below w.heap.size w W) (b:Nat) (h0:W.cell? ⟨b,0,none⟩=some (.int .i64 c.fr)) (h1:W.cell? ⟨b,1,none⟩=some (.int .i64 c.toT)) =>
  indexOrd 117 #[.pointer (some ⟨b,0,none⟩)] (fun _ _=>by kernel_rfl) (zY c) D.os D.oa D.oc (by omega) (fun V=>Below W.heap.size W V) (fun V (hV:Below W.heap.size W V)=>hos.keep (bcl hB hV)) W (Below.refl _ _)
   (fun i x _ V (hV:Below W.heap.size W V)=>(Jj x c b V (qb _ hV h0) (qb _ hV h1)).mono fun e w' ⟨he,hB1⟩=>⟨he,bcl hV hB1⟩)
 clear h hs hos
 unfold dm cvC
 obtain ⟨ts,ta,tc,gs,ga,gc,os,oa,oc,hs,ha,hc,cs,ca,cc⟩:=D
 simp only at *
 generalize Zq (zY c) os=R at *
 have HI:=Lib.hid hI
 clear hI
 go_enter (sf 88 f88),ntmps88
 go_wp2_with (go_at_call 116;(with_reducible refine (HI.out _ (by go_grown) _ (by go_cell) (by go_cell)).mono ?_);rintro e w1 ⟨rfl,hB1⟩;have hB2:=Below.call (B:=w.heap.size) (w:=w) (by go_grown) hB1 (Nat.le_refl _))
 go_ret
 exact ⟨rfl,by go_grown⟩
def YE (D:DayM) (c:CalM):Value:=.slice (qJ D c).a (qJ D c).ws.length (qJ D c).c
set_option maxHeartbeats 1000000 in
theorem jG (D:DayM) (m:Option Nat) (c:CalM) (w:World) (h:DayAt w D) (hs:DaySm D):Calls qj 50 #[dm D m,cvC c] w fun e w'=>e=.returned (YE D c)∧Below w.heap.size w w':=by
 have hor:=fun W (hB:Below w.heap.size w W)=>qah D m c W (h.keep hB) hs
 have hos:=h.os
 have hsm:=hs.os
 have hnone:=@zU D c
 have hsome:=@zV D c
 have hlt:zu D c < D.os.length:=idxN_lt _ _
 clear h hs
 unfold dm cvC YE at *
 obtain ⟨ts,ta,tc,gs,ga,gc,os,oa,oc,hs,ha,hc,cs,ca,cc⟩:=D
 generalize qJ ⟨ts,ta,tc,gs,ga,gc,os,oa,oc,hs,ha,hc,cs,ca,cc⟩ c=O at *
 generalize zu ⟨ts,ta,tc,gs,ga,gc,os,oa,oc,hs,ha,hc,cs,ca,cc⟩ c=R at *
 simp only at *
 by_cases h0:R < 0
 ·have hn:=hnone h0
  subst hn
  clear hnone hsome hos
  go_enter (sf 50 f50),ntmps50
  go_wp2_with (go_at_call 88;(with_reducible refine (hor _ (by go_grown)).mono ?_);rintro e w1 ⟨rfl,hB1⟩;have hB2:=Below.call (B:=w.heap.size) (w:=w) (by go_grown) hB1 (Nat.le_refl _))
  go_ret
  exact ⟨rfl,by go_grown⟩
 ·obtain ⟨k,rfl⟩:∃k:Nat,R=k:=⟨R.toNat,by omega⟩
  have hx:=hsome rfl
  obtain ⟨b,o,rfl,hP⟩:=hos (by omega)
  have c2:=hP k _ hx 2 _ rfl
  have hlt2:k < os.length:=by omega
  have hkc:(k:Int)≤(oc:Int):=by omega
  clear hnone hsome hos hx hP
  go_enter (sf 50 f50),ntmps50
  go_wp2_with (go_at_call 88;(with_reducible refine (hor _ (by go_grown)).mono ?_);rintro e w1 ⟨rfl,hB1⟩;have hB2:=Below.call (B:=w.heap.size) (w:=w) (by go_grown) hB1 (Nat.le_refl _);have c2:=qb _ hB2 c2;obtain ⟨hc,hg⟩:=zH hB1;have hz1:=hB1.size;simp at hz1)
  go_ret
  exact ⟨rfl,by go_grown⟩
def qcL (D:DayM) (last:Int) (c:CalM):Int:=if zJ D.ts.length c.fr c.toT≠0 then zJ D.ts.length c.fr c.toT else if (btw c.co 0 99 && btw c.cl 0 99)=false then 1 else if c.cl≤c.co∨c.co < last then 7 else if c.se < -2 then 1 else if (qJ D c).ws.length≤c.se then 6 else 0
def jK (D:DayM):Int→List CalM→Int
 | _,[]=>0
 | last,c :: l=>if qcL D last c≠0 then qcL D last c else jK D c.co l
def xX (D:DayM):Int:=if 8 < D.cs.length then 2 else jK D 0 D.cs
theorem ZN (D:DayM) {l:List CalM} {k:Nat} {c:CalM} (last:Int) (h:l[k]? = some c):jK D last (l.drop k)=if qcL D last c≠0 then qcL D last c else jK D c.co (l.drop (k+1)):=by
 obtain ⟨hk,rfl⟩:=List.getElem?_eq_some_iff.1 h
 rw [List.drop_eq_getElem_cons hk]
 rfl
theorem YN (D:DayM) (last:Int) (c:CalM) {E n r:Int} {r1 r2:Bool} (h:qcL D last c=r) (hE:zJ D.ts.length c.fr c.toT=E) (h1:btw c.co 0 99=r1) (h2:btw c.cl 0 99=r2) (hn:((qJ D c).ws.length:Int)=n) :
 ((E != 0)=true∧r=E)∨(E=0∧r1=false∧r=1)∨(E=0∧r1=true∧r2=false∧r=1)∨(E=0∧r1=true∧r2=true∧c.cl≤c.co∧r=7)∨(E=0∧r1=true∧r2=true∧¬ c.cl≤c.co∧c.co < last∧r=7) ∨
 (E=0∧r1=true∧r2=true∧¬ c.cl≤c.co∧¬ c.co < last∧c.se < -2∧r=1)∨(E=0∧r1=true∧r2=true∧¬ c.cl≤c.co∧¬ c.co < last∧¬ c.se < -2∧n≤c.se∧r=6)∨(E=0∧r1=true∧r2=true∧¬ c.cl≤c.co∧¬ c.co < last∧¬ c.se < -2∧¬ n≤c.se∧r=0):=by
 subst h
 unfold qcL
 rw [hE,h1,h2,hn]
 by_cases a:E=0 <;> cases r1 <;> cases r2 <;> by_cases b:c.cl≤c.co <;> by_cases d:c.co < last <;> by_cases e:c.se < -2 <;> by_cases f:n≤c.se <;> simp [a,b,d,e,f]
set_option maxHeartbeats 4000000 in
set_option maxRecDepth 100000 in
theorem qcM (D:DayM) (m:Option Nat) (w:World) (h:DayAt w D) (hs:DaySm D):Calls qj 161 #[dm D m] w fun e w'=>e=.returned (.int .i64 (xX D))∧Below w.heap.size w w':=by
 have hcs:=h.cs
 have hsm:=hs.cs
 have htl:=hs.ts.1
 have hwo:=fun c W (hB:Below w.heap.size w W)=>jG D m c W (h.keep hB) hs
 have how:∀c,(qJ D c).ws.length≤20:=fun c=>by
  by_cases hz:zu D c < 0
  ·rw [zU hz];simp
  ·have:=zV (D:=D) (c:=c) (k:=(zu D c).toNat) (by omega)
   exact (hs.ws _ (List.mem_of_getElem? this)).1
 obtain ⟨R,hR⟩:∃R,xX D=R:=⟨_,rfl⟩
 rw [hR]
 unfold xX at hR
 have hdrop:=fun k c last (hx:D.cs[k]? = some c)=>ZN D last hx
 have hcase:=fun last c E n r r1 r2=>@YN D last c E n r r1 r2
 have hnil:∀last l,l.length=0→jK D last l=0:=fun last l h=>by cases l with | nil=>rfl | cons _ _=>cases h
 generalize qcL D=CA at *
 generalize jK D=CSA at *
 unfold dm at *
 clear h hs
 simp only [YE,cvC] at hwo
 obtain ⟨fa,hoa⟩:∃f:CalM→Option Addr,∀c,(qJ D c).a=f c:=⟨_,fun _=>rfl⟩
 obtain ⟨fn,hol⟩:∃f:CalM→Nat,∀c,(qJ D c).ws.length=f c:=⟨_,fun _=>rfl⟩
 obtain ⟨fc,hoc⟩:∃f:CalM→Nat,∀c,(qJ D c).c=f c:=⟨_,fun _=>rfl⟩
 simp only [hoa,hol,hoc] at *
 clear hoa hol hoc
 have hen:=fun one two=>Xk D.ta D.ts.length D.tc (by omega) (.slice D.ga D.gs.length D.gc) (.slice D.oa D.os.length D.oc) (.slice D.ha D.hs.length D.hc) (.slice D.ca D.cs.length D.cc) (.map m) one two
 obtain ⟨ts,ta,tc,gs,ga,gc,os,oa,oc,hs,ha,hc,cs,ca,cc⟩:=D
 simp only at *
 generalize Value.slice ga gs.length gc=x2 at *
 generalize Value.slice oa os.length oc=x3 at *
 generalize Value.slice ha hs.length hc=x4 at *
 generalize hN:ts.length=N at *
 clear hN
 by_cases hlen:8 < cs.length
 ·simp [hlen] at hR
  subst hR
  clear hcs hwo
  go_enter (sf 161 f161),ntmps161
  go_wp2
  go_ret
  exact ⟨rfl,by go_grown⟩
 ·simp [hlen] at hR
  have HR:=Lib.hid hR
  have HT:=Lib.hid hcs
  have HD:=Lib.hid hdrop
  have HC:=Lib.hid hcase
  have HNIL:=Lib.hid hnil
  clear hR hcs hdrop hcase hnil
  go_enter (sf 161 f161),ntmps161
  obtain ⟨W,hW⟩:∃W,w.alloc (Obj.cells #[.slice ta N tc,x2,x3,x4,.slice ca cs.length cc,.map m] 74)=W:=⟨_,rfl⟩
  have h6:B6 W w.heap.size (.slice ta N tc) x2 x3 x4 (.slice ca cs.length cc) (.map m):=by subst hW;exact B6.new ..
  have hBW:Below w.heap.size w W:=by subst hW;go_grown
  have k1:=h6.c4
  go_wp2
  try rw [hW]
  clear hW k1
  go_loopw [16,3] (fun i q wr=>∃(k:Nat) (L:Int),i=.int .i64 k∧q=.int .i64 L∧k≤cs.length∧Below W.heap.size W wr∧Hid (CSA L (cs.drop k)=R)) (fun i _ _=>cs.length - (intOf i).toNat)
  case atStart=>exact ⟨0,0,rfl,rfl,by omega,Below.refl _ _,HR⟩
  case round =>
   obtain ⟨k,L,rfl,rfl,hk,hBr,HE⟩:=hrel
   obtain ⟨k0,k1,k2,k3,k4,k5⟩:=h6.keep hBr
   have hBw:=bcl hBW hBr
   have hz:=lt_of_cell k0
   have hzW:=hBr.size
   simp only at hz
   by_cases hlt:k < cs.length
   ·obtain ⟨b,o,rfl,hP⟩:=HT.out (by omega)
    obtain ⟨c,hx⟩:∃x,cs[k]? = some x:=⟨cs[k],by simp [hlt]⟩
    have hkc:(k:Int)≤(cc:Int):=by omega
    have c0:=qb _ hBw (hP k c hx 0 _ rfl)
    have c1:=qb _ hBw (hP k c hx 1 _ rfl)
    have c2:=qb _ hBw (hP k c hx 2 _ rfl)
    have c3:=qb _ hBw (hP k c hx 3 _ rfl)
    have c4:=qb _ hBw (hP k c hx 4 _ rfl)
    simp only [Nat.add_zero] at c0
    have hA:=HE.out
    rw [HD.out _ _ _ hx] at hA
    clear hP hx
    have hwo:=fun W=>hwo c W
    have how:=how c
    obtain ⟨r,hr⟩:∃r,CA L c=r:=⟨_,rfl⟩
    have hcs:=HC.out L c _ _ r _ _ hr rfl rfl rfl rfl
    rw [hr] at hA
    clear hr
    generalize fa c=qa at *
    generalize fn c=qn at *
    generalize fc c=qc at *
    obtain ⟨fr,tw,co,cl,se⟩:=c
    have hen:=hen fr tw
    have hi1:=xA co
    have hi2:=xA cl
    simp only at *
    generalize zJ N fr tw=E at *
    generalize btw co 0 99=r1 at *
    generalize btw cl 0 99=r2 at *
    have HA:=Lib.hid hA
    clear hA
    rcases hcs with ⟨g1,rfl⟩ | ⟨rfl,rfl,rfl⟩ | ⟨rfl,rfl,rfl,rfl⟩ | ⟨rfl,rfl,rfl,g1,rfl⟩ | ⟨rfl,rfl,rfl,g1,g2,rfl⟩ | ⟨rfl,rfl,rfl,g1,g2,g3,rfl⟩ | ⟨rfl,rfl,rfl,g1,g2,g3,g4,rfl⟩ | ⟨rfl,rfl,rfl,g1,g2,g3,g4,rfl⟩
    ·go_wp2_with (first | (go_at_call 167;(with_reducible refine (hen _).mono ?_);rintro e w1 ⟨rfl,hB1⟩;have hB2:=Below.call (B:=w.heap.size) (w:=w) (by go_grown) hB1 (Nat.le_refl _);have hB3:=Below.call (B:=W.heap.size) (w:=W) (by go_grown) hB1 (Nat.le_refl _);obtain ⟨hc,hg⟩:=zH hB1;have hz1:=hB1.size;simp at hz1) | (go_at_call 47;(with_reducible refine (hi1 _).mono ?_);rintro e w1 ⟨rfl,rfl⟩) | (go_at_call 47;(with_reducible refine (hi2 _).mono ?_);rintro e w1 ⟨rfl,rfl⟩))
     go_ret
     exact ⟨by have e:=HA.out;have g2:r≠0:=by simpa using g1
               rw [if_pos g2] at e;rw [← e];rfl,by go_grown⟩
    ·go_wp2_with (first | (go_at_call 167;(with_reducible refine (hen _).mono ?_);rintro e w1 ⟨rfl,hB1⟩;have hB2:=Below.call (B:=w.heap.size) (w:=w) (by go_grown) hB1 (Nat.le_refl _);have hB3:=Below.call (B:=W.heap.size) (w:=W) (by go_grown) hB1 (Nat.le_refl _);obtain ⟨hc,hg⟩:=zH hB1;have hz1:=hB1.size;simp at hz1) | (go_at_call 47;(with_reducible refine (hi1 _).mono ?_);rintro e w1 ⟨rfl,rfl⟩) | (go_at_call 47;(with_reducible refine (hi2 _).mono ?_);rintro e w1 ⟨rfl,rfl⟩))
     go_ret
     exact ⟨by have e:=HA.out;simp at e;rw [← e];rfl,by go_grown⟩
    ·go_wp2_with (first | (go_at_call 167;(with_reducible refine (hen _).mono ?_);rintro e w1 ⟨rfl,hB1⟩;have hB2:=Below.call (B:=w.heap.size) (w:=w) (by go_grown) hB1 (Nat.le_refl _);have hB3:=Below.call (B:=W.heap.size) (w:=W) (by go_grown) hB1 (Nat.le_refl _);obtain ⟨hc,hg⟩:=zH hB1;have hz1:=hB1.size;simp at hz1) | (go_at_call 47;(with_reducible refine (hi1 _).mono ?_);rintro e w1 ⟨rfl,rfl⟩) | (go_at_call 47;(with_reducible refine (hi2 _).mono ?_);rintro e w1 ⟨rfl,rfl⟩))
     go_ret
     exact ⟨by have e:=HA.out;simp at e;rw [← e];rfl,by go_grown⟩
    ·go_wp2_with (first | (go_at_call 167;(with_reducible refine (hen _).mono ?_);rintro e w1 ⟨rfl,hB1⟩;have hB2:=Below.call (B:=w.heap.size) (w:=w) (by go_grown) hB1 (Nat.le_refl _);have hB3:=Below.call (B:=W.heap.size) (w:=W) (by go_grown) hB1 (Nat.le_refl _);obtain ⟨hc,hg⟩:=zH hB1;have hz1:=hB1.size;simp at hz1) | (go_at_call 47;(with_reducible refine (hi1 _).mono ?_);rintro e w1 ⟨rfl,rfl⟩) | (go_at_call 47;(with_reducible refine (hi2 _).mono ?_);rintro e w1 ⟨rfl,rfl⟩))
     go_ret
     exact ⟨by have e:=HA.out;simp at e;rw [← e];rfl,by go_grown⟩
    ·go_wp2_with (first | (go_at_call 167;(with_reducible refine (hen _).mono ?_);rintro e w1 ⟨rfl,hB1⟩;have hB2:=Below.call (B:=w.heap.size) (w:=w) (by go_grown) hB1 (Nat.le_refl _);have hB3:=Below.call (B:=W.heap.size) (w:=W) (by go_grown) hB1 (Nat.le_refl _);obtain ⟨hc,hg⟩:=zH hB1;have hz1:=hB1.size;simp at hz1) | (go_at_call 47;(with_reducible refine (hi1 _).mono ?_);rintro e w1 ⟨rfl,rfl⟩) | (go_at_call 47;(with_reducible refine (hi2 _).mono ?_);rintro e w1 ⟨rfl,rfl⟩))
     go_ret
     exact ⟨by have e:=HA.out;simp at e;rw [← e];rfl,by go_grown⟩
    ·go_wp2_with (first | (go_at_call 167;(with_reducible refine (hen _).mono ?_);rintro e w1 ⟨rfl,hB1⟩;have hB2:=Below.call (B:=w.heap.size) (w:=w) (by go_grown) hB1 (Nat.le_refl _);have hB3:=Below.call (B:=W.heap.size) (w:=W) (by go_grown) hB1 (Nat.le_refl _);obtain ⟨hc,hg⟩:=zH hB1;have hz1:=hB1.size;simp at hz1) | (go_at_call 47;(with_reducible refine (hi1 _).mono ?_);rintro e w1 ⟨rfl,rfl⟩) | (go_at_call 47;(with_reducible refine (hi2 _).mono ?_);rintro e w1 ⟨rfl,rfl⟩))
     go_ret
     exact ⟨by have e:=HA.out;simp at e;rw [← e];rfl,by go_grown⟩
    ·go_wp2_with (first | (go_at_call 167;(with_reducible refine (hen _).mono ?_);rintro e w1 ⟨rfl,hB1⟩;have hB2:=Below.call (B:=w.heap.size) (w:=w) (by go_grown) hB1 (Nat.le_refl _);have hB3:=Below.call (B:=W.heap.size) (w:=W) (by go_grown) hB1 (Nat.le_refl _);obtain ⟨hc,hg⟩:=zH hB1;have hz1:=hB1.size;simp at hz1) | (go_at_call 47;(with_reducible refine (hi1 _).mono ?_);rintro e w1 ⟨rfl,rfl⟩) | (go_at_call 47;(with_reducible refine (hi2 _).mono ?_);rintro e w1 ⟨rfl,rfl⟩))
     go_region_held3 (RH11 w1 ⟨w.heap.size,0,none⟩ ⟨w.heap.size,1,none⟩ ⟨w.heap.size,2,none⟩ ⟨w.heap.size,3,none⟩ ⟨w.heap.size,4,none⟩ ⟨w.heap.size,5,none⟩ ⟨wr.heap.size,0,none⟩ ⟨wr.heap.size,1,none⟩ ⟨wr.heap.size,2,none⟩ ⟨wr.heap.size,3,none⟩ ⟨wr.heap.size,4,none⟩ (.slice ta N tc) x2 x3 x4 (.slice (some ⟨b,o,none⟩) cs.length cc) (.map m) (.int .i64 fr) (.int .i64 tw) (.int .i64 co) (.int .i64 cl) (.int .i64 se)) (first | exact RHL.drew ‹_› | exact ⟨by go_cell,by go_cell,by go_cell,by go_cell,by go_cell,by go_cell,by go_cell,by go_cell,by go_cell,by go_cell,by go_cell,by go_grown⟩ | exact RHL.call ‹_› hB4 | assumption) (first | (go_at_call 50;(with_reducible refine (hwo _ (bcl hB2 (RHL.bel (by with_reducible assumption)))).mono ?_);rintro e wy ⟨rfl,hB4⟩))
     all_goals
      rename_i hH
      have hBx:=RHL.bel hH
      clear hH
      have hB5:=bcl hB2 hBx
      go_wp2_with fail
      go_ret
      exact ⟨by have e:=HA.out;simp at e;rw [← e];rfl,by go_grown⟩
    ·go_wp2_with (first | (go_at_call 167;(with_reducible refine (hen _).mono ?_);rintro e w1 ⟨rfl,hB1⟩;have hB2:=Below.call (B:=w.heap.size) (w:=w) (by go_grown) hB1 (Nat.le_refl _);have hB3:=Below.call (B:=W.heap.size) (w:=W) (by go_grown) hB1 (Nat.le_refl _);obtain ⟨hc,hg⟩:=zH hB1;have hz1:=hB1.size;simp at hz1) | (go_at_call 47;(with_reducible refine (hi1 _).mono ?_);rintro e w1 ⟨rfl,rfl⟩) | (go_at_call 47;(with_reducible refine (hi2 _).mono ?_);rintro e w1 ⟨rfl,rfl⟩))
     go_region_held3 (RH11 w1 ⟨w.heap.size,0,none⟩ ⟨w.heap.size,1,none⟩ ⟨w.heap.size,2,none⟩ ⟨w.heap.size,3,none⟩ ⟨w.heap.size,4,none⟩ ⟨w.heap.size,5,none⟩ ⟨wr.heap.size,0,none⟩ ⟨wr.heap.size,1,none⟩ ⟨wr.heap.size,2,none⟩ ⟨wr.heap.size,3,none⟩ ⟨wr.heap.size,4,none⟩ (.slice ta N tc) x2 x3 x4 (.slice (some ⟨b,o,none⟩) cs.length cc) (.map m) (.int .i64 fr) (.int .i64 tw) (.int .i64 co) (.int .i64 cl) (.int .i64 se)) (first | exact RHL.drew ‹_› | exact ⟨by go_cell,by go_cell,by go_cell,by go_cell,by go_cell,by go_cell,by go_cell,by go_cell,by go_cell,by go_cell,by go_cell,by go_grown⟩ | exact RHL.call ‹_› hB4 | assumption) (first | (go_at_call 50;(with_reducible refine (hwo _ (bcl hB2 (RHL.bel (by with_reducible assumption)))).mono ?_);rintro e wy ⟨rfl,hB4⟩))
     all_goals
      rename_i hH
      have hBx:=RHL.bel hH
      have c2:=hH.2.2.2.2.2.2.2.2.1
      clear hH
      have hB5:=bcl hB3 hBx
      go_wp2_with fail
      go_roundw
      case rel=>exact ⟨k+1,co,rfl,rfl,by omega,by go_grown,Lib.hid (by simpa using HA.out)⟩
      case measure=>simp [intOf];omega
   ·obtain rfl:k=cs.length:=by omega
    have hA:=HE.out
    rw [HNIL.out _ _ (by simp)] at hA
    have HA:=Lib.hid hA
    clear hA
    go_wp2
    go_ret
    exact ⟨by rw [← HA.out];rfl,hBw⟩
end Go.Proofs.Tryz
namespace Go.Proofs.Tryz
open Go Go.Load Go.RowKit Go.Instr
def zR {α:Type} [DecidableEq α] (k:α):List (α×Value)→Nat→Option (Nat×Value)
 | [],_=>none
 | p :: L,i=>if k=p.1 then some (i,p.2) else zR k L (i+1)
def yz {α:Type} (enc:α→Value) (es:List MapEntry) (L:List (α×Value)):Prop:=es.map (fun e=>(e.key,e.val))=L.map fun p=>(enc p.1,p.2)
structure MapTy {α:Type} [DecidableEq α] (mt kt et:TypeId) (enc:α→Value) (z:Value):Prop where
 hu:∀w,(Go.underlying mt).run qj w=.ok (.map kt et) w
 ck:∀e k w,(checkKey e 10000 kt (enc k)).run qj w=.ok () w
 fk:∀k es L w,yz enc es L→(findKey kt (enc k) es).run qj w=.ok (zR k L 0) w
 hz:∀w,(zeroValue et).run qj w=.ok z w
 sb:∀k,sameBits 10000 (enc k) (enc k)=true
def jH {α:Type} [DecidableEq α] (enc:α→Value) (W:World) (m:Nat) (f:α→Option Value):Prop :=
 ∃es clock L,W.heap[m]? = some (.map es clock)∧yz enc es.toList L∧∀k,(zR k L 0).map Prod.snd=f k
section
variable {α:Type} [DecidableEq α] {enc:α→Value} {mt kt et:TypeId} {z:Value}
theorem jH.block {W W1:World} {m:Nat} {f:α→Option Value} (h:jH enc W m f) (e:W1.heap[m]? = W.heap[m]?):jH enc W1 m f:=by
 obtain ⟨es,c,L,h1,h2⟩:=h
 exact ⟨es,c,L,e.trans h1,h2⟩
theorem jH.lt {W:World} {m:Nat} {f:α→Option Value} (h:jH enc W m f):m < W.heap.size:=by
 obtain ⟨es,c,L,h1,h2⟩:=h
 exact (Array.getElem?_eq_some_iff.1 h1).1
theorem jH.keep {W W1:World} {m:Nat} {f:α→Option Value} (h:jH enc W m f) (hB:Below W.heap.size W W1):jH enc W1 m f:=h.block (hB.block m h.lt)
theorem jH.new (w:World):jH enc (w.alloc (.map #[] 0)) w.heap.size (fun _=>none) :=
 ⟨#[],0,[],Array.getElem?_push_size,rfl,fun _=>rfl⟩
theorem yj (T:MapTy mt kt et enc z) {W:World} {m:Nat} {f:α→Option Value} (h:jH enc W m f) (k:α) (c:Bool) :
 (Instr.lookup mt (.map (some m)) (enc k) c).run qj W=.ok (if c then .tuple #[(f k).getD z,.bool (f k).isSome] else (f k).getD z) W:=by
 obtain ⟨es,clock,L,h1,h2,h3⟩:=h
 unfold Instr.lookup
 have hg:(getObj m).run qj W=.ok (.map es clock) W:=by simp [getObj,Sem.run,h1]
 simp only [Sem.run_bind,T.hu,hg,Result.andThen_ok,Sem.run_pure,T.ck]
 show ((findKey kt (enc k) es.toList).run qj W).andThen _=_
 rw [T.fk k _ L W h2,Result.andThen_ok,← h3 k]
 cases zR k L 0 with
 | none=>simp [T.hz]
 | some p=>simp
theorem JV (k:α) (L:List (α×Value)) (i j:Nat):zR k L (i+j)=(zR k L i).map fun p=>(p.1+j,p.2):=by
 induction L generalizing i with
 | nil=>rfl
 | cons p L ih =>
   unfold zR
   split
   ·rfl
   ·rw [show i+j+1=(i+1)+j by omega,ih]
theorem qbK (k k':α) (v:Value) (L:List (α×Value)) (i:Nat) (h:zR k L i=none):(zR k' (L ++ [(k,v)]) i).map Prod.snd=if k'=k then some v else (zR k' L i).map Prod.snd:=by
 induction L generalizing i with
 | nil =>
   simp only [List.nil_append,zR]
   split <;> simp
 | cons p L ih =>
   simp only [List.cons_append,zR] at h ⊢
   split at h
   ·cases h
   ·rename_i hkp
    by_cases hk:k'=p.1
    ·have:k'≠k:=fun e=>hkp (e▸hk)
     rw [if_pos hk,if_pos hk,if_neg this]
    ·rw [if_neg hk,if_neg hk]
     exact ih _ h
theorem qdg (k k':α) (v v0:Value) (L:List (α×Value)) (i j:Nat) (h:zR k L i=some (i+j,v0)):(zR k' (L.modify j fun _=>(k,v)) i).map Prod.snd=if k'=k then some v else (zR k' L i).map Prod.snd:=by
 induction L generalizing i j with
 | nil=>cases h
 | cons p L ih =>
   simp only [zR] at h
   split at h
   ·rename_i hkp
    simp only [Option.some.injEq,Prod.mk.injEq] at h
    obtain rfl:j=0:=by omega
    simp only [List.modify_zero_cons,zR]
    by_cases hk:k'=k
    ·simp [hk]
    ·rw [if_neg hk,if_neg hk,if_neg (fun e=>hk (e.trans hkp.symm))]
   ·rename_i hkp
    obtain ⟨q,hq,hq2⟩:∃q,zR k L i=some q∧q.1+1=i+j:=by
     rw [JV] at h
     cases hq:zR k L i with
     | none=>rw [hq] at h;cases h
     | some q=>rw [hq] at h;simp at h;exact ⟨q,rfl,h.1⟩
    have hge:∀(L:List (α×Value)) (i:Nat) (q),zR k L i=some q→i≤q.1:=by
     intro L
     induction L with
     | nil=>intro i q h;cases h
     | cons p L ih =>
       intro i q h
       simp only [zR] at h
       split at h
       ·simp at h;subst h;exact Nat.le_refl _
       ·have:=ih _ _ h;omega
    have:=hge _ _ _ hq
    obtain ⟨j,rfl⟩:∃j',j=j'+1:=⟨j - 1,by omega⟩
    simp only [List.modify_succ_cons,zR]
    by_cases hk:k'=p.1
    ·rw [if_pos hk,if_pos hk,if_neg (fun e:k'=k=>hkp (e▸hk))]
    ·rw [if_neg hk,if_neg hk]
     exact ih _ _ (by rw [h];congr 2;omega)
theorem findL_at (k:α) (v:Value) (L:List (α×Value)) (i j:Nat) (h:zR k L i=some (j,v)):∃n,j=i+n∧L[n]? = some (k,v):=by
 induction L generalizing i with
 | nil=>cases h
 | cons p L ih =>
   simp only [zR] at h
   split at h
   ·rename_i e
    simp only [Option.some.injEq,Prod.mk.injEq] at h
    exact ⟨0,by omega,by simp [e,← h.2]⟩
   ·obtain ⟨n,e,h2⟩:=ih _ h
    exact ⟨n+1,by omega,by simpa using h2⟩
omit [DecidableEq α] in
theorem yz.modify {es:List MapEntry} {L:List (α×Value)} (h:yz enc es L) (k:α) (v:Value) (j:Nat):yz enc (es.modify j fun e=>{ e with key:=enc k,val:=v }) (L.modify j fun _=>(k,v)):=by
 unfold yz at *
 induction es generalizing L j with
 | nil =>
   cases L with
   | nil=>cases j <;> rfl
   | cons p L=>simp at h
 | cons e es ih =>
   cases L with
   | nil=>simp at h
   | cons p L =>
     simp only [List.map_cons,List.cons.injEq] at h
     cases j with
     | zero=>simp [h.2]
     | succ j=>simp only [List.modify_succ_cons,List.map_cons,ih h.2,h.1]
theorem xH (T:MapTy mt kt et enc z) {W:World} {m:Nat} {f:α→Option Value} (h:jH enc W m f) (k:α) (v:Value) :
 ∃W1,(Instr.mapUpdate mt (.map (some m)) (enc k) v).run qj W=.ok () W1∧jH enc W1 m (fun k'=>if k'=k then some v else f k')∧W.grownBy W1 (some m)∧W1.heap.size=W.heap.size:=by
 obtain ⟨es,clock,L,h1,h2,h3⟩:=h
 have hg:(getObj m).run qj W=.ok (.map es clock) W:=by simp [getObj,Sem.run,h1]
 have hlt:m < W.heap.size:=(Array.getElem?_eq_some_iff.1 h1).1
 cases hr:zR k L 0 with
 | none =>
   refine ⟨W.putObj m (.map (es.push { key:=enc k,val:=v,born:=clock }) (clock+1)),?_,⟨_,_,L ++ [(k,v)],World.putObj_heap_same hlt,?_,fun k'=>?_⟩,grownBy_putObj' W _ _,by simp [World.putObj]⟩
   ·unfold Instr.mapUpdate
    simp only [Sem.run_bind,T.hu,hg,Result.andThen_ok,T.ck]
    show ((findKey kt (enc k) es.toList).run qj W).andThen _=_
    rw [T.fk k _ L W h2,hr,Result.andThen_ok]
    show (setObj m _).run qj W=_
    unfold setObj
    simp [Sem.run,h1,World.putObj]
   ·unfold yz at h2 ⊢
    simp [h2]
   ·rw [qbK k k' v L 0 hr,h3 k']
 | some q =>
   obtain ⟨j,v0⟩:=q
   refine ⟨W.putObj m (.map (es.modify j fun e=>{ e with key:=enc k,val:=v }) clock),?_,⟨_,_,L.modify j (fun _=>(k,v)),World.putObj_heap_same hlt,?_,fun k'=>?_⟩,grownBy_putObj' W _ _,by simp [World.putObj]⟩
   ·unfold Instr.mapUpdate
    simp only [Sem.run_bind,T.hu,hg,Result.andThen_ok,T.ck]
    show ((findKey kt (enc k) es.toList).run qj W).andThen _=_
    rw [T.fk k _ L W h2,hr,Result.andThen_ok]
    have hkj:((es[j]?).map (·.key)).getD (enc k)=enc k:=by
     obtain ⟨n,e,h5⟩:=findL_at _ _ _ _ _ hr
     obtain rfl:j=n:=by omega
     have h6:(es.toList.map (fun e=>(e.key,e.val)))[j]? = some (enc k,v0):=by rw [h2];simp [h5]
     simp only [List.getElem?_map,Array.getElem?_toList,Option.map_eq_some_iff] at h6
     obtain ⟨e6,h7,h8⟩:=h6
     rw [h7]
     simp only [Option.map_some,Option.getD_some]
     exact congrArg Prod.fst h8
    simp only [hkj,Sem.run_bind]
    have:(keyThatStays (enc k) (enc k)).run qj W=.ok (enc k) W:=by unfold keyThatStays;rw [if_pos (T.sb k)];rfl
    rw [this,Result.andThen_ok]
    show (setObj m _).run qj W=_
    unfold setObj
    simp [Sem.run,h1,World.putObj]
   ·have:=h2.modify k v j
    simpa using this
   ·rw [qdg k k' v v0 L 0 j (by rw [hr];simp),h3 k']
end
theorem Zw {B:Nat} {a w:World} (h:Below B a w) (n:Nat):Below B a (w.drewN n):=h.trans ⟨rfl,rfl,rfl,Nat.le_refl _,fun _ _=>rfl⟩
theorem ql {w w1 w2:World} {r:Option Nat} (h:w.grownBy w1 r) (k:w1.grownBy w2 r):w.grownBy w2 r :=
 ⟨k.os.trans h.os,k.tape.trans h.tape,k.output.trans h.output,Nat.le_trans h.size k.size,fun b hb hr=>(k.block b (Nat.lt_of_lt_of_le hb h.size) hr).trans (h.block b hb hr)⟩
theorem qi {w w1:World} {r:Option Nat} (h:Below w.heap.size w w1):w.grownBy w1 r:=⟨h.os,h.tape,h.output,h.size,fun k hk _=>h.block k hk⟩
theorem qI {w w1:World} {m:Nat} (h:w.grownBy w1 (some m)) {p:Addr} {v:Value} (hc:w.cell? p=some v) (hp:p.block≠m):w1.cell? p=some v:=h.cell hc (by simpa using hp)
theorem below_grown {B m:Nat} {w w1 w2:World} (h:Below B w w1) (hB:B≤w.heap.size) (k:w1.grownBy w2 (some m)) (hm:B≤m):Below B w w2 :=
 ⟨k.os.trans h.os,k.tape.trans h.tape,k.output.trans h.output,Nat.le_trans h.size k.size,fun b hb=>(k.block b (by have:=h.size;omega) (by simp;omega)).trans (h.block b hb)⟩
def Zh (n:Int):Value:=.int .i64 n
theorem ZX (k:Int):∀(es:List MapEntry) (L:List (Int×Value)) (i:Nat),yz Zh es L→findNow (.int .i64) (Zh k) es i=some (zR k L i)
 | [],[],_,_=>rfl
 | [],_ :: _,_,h=>by simp [yz] at h
 | _ :: _,[],_,h=>by simp [yz] at h
 | e :: es,p :: L,i,h=>by
   simp only [yz,List.map_cons,List.cons.injEq,Prod.mk.injEq] at h
   unfold findNow zR
   rw [h.1.1]
   simp only [Zh,sameNow,if_true]
   by_cases hk:k=p.1
   ·simp [hk,h.1.2]
   ·have:(k == p.1)=false:=by simpa using hk
    rw [this,if_neg hk]
    exact ZX k es L (i+1) h.2
theorem ZW (kt:TypeId) (hu:∀w,(Go.underlying kt).run qj w=.ok (.int .i64) w) (k:Int) (es:List MapEntry) (L:List (Int×Value)) (w:World) (h:yz Zh es L):(findKey kt (Zh k) es).run qj w=.ok (zR k L 0) w:=by
 unfold findKey
 rw [Sem.run_bind,hu,Result.andThen_ok,ZX k es L 0 h]
 rfl
theorem jX:MapTy 205 3 4 Zh (.bool false) :=
 ⟨fun _=>by kernel_rfl,fun _ _ _=>by kernel_rfl,ZW _ (fun _=>by kernel_rfl),fun _=>by kernel_rfl,fun k=>by simp [Zh,sameBits]⟩
theorem qeb:MapTy 118 3 3 Zh (.int .i64 0) :=
 ⟨fun _=>by kernel_rfl,fun _ _ _=>by kernel_rfl,ZW _ (fun _=>by kernel_rfl),fun _=>by kernel_rfl,fun k=>by simp [Zh,sameBits]⟩
section
variable {α:Type} [DecidableEq α] {enc:α→Value} {kt:TypeId}
theorem Qh (heq:∀p q w,(Op.equal kt (enc p) (enc q)).run qj w=.ok (decide (p=q)) w) (k:α):∀(es:List MapEntry) (L:List (α×Value)) (i:Nat) (w:World),yz enc es L→(findAsking kt (enc k) es i).run qj w=.ok (zR k L i) w
 | [],[],_,_,_=>rfl
 | [],_ :: _,_,_,h=>by simp [yz] at h
 | _ :: _,[],_,_,h=>by simp [yz] at h
 | e :: es,p :: L,i,w,h=>by
   simp only [yz,List.map_cons,List.cons.injEq,Prod.mk.injEq] at h
   unfold findAsking zR
   rw [Sem.run_bind,h.1.1,heq,Result.andThen_ok]
   by_cases hk:k=p.1
   ·rw [if_pos (by simpa using hk),if_pos hk,h.1.2];rfl
   ·rw [if_neg (by simpa using hk),if_neg hk]
    exact Qh heq k es L (i+1) w h.2
theorem YR (fs:Array Field) (hu:∀w,(Go.underlying kt).run qj w=.ok (.struct fs) w) (heq:∀p q w,(Op.equal kt (enc p) (enc q)).run qj w=.ok (decide (p=q)) w) (k:α) (es:List MapEntry) (L:List (α×Value)) (w:World) (h:yz enc es L):(findKey kt (enc k) es).run qj w=.ok (zR k L 0) w:=by
 unfold findKey
 rw [Sem.run_bind,hu,Result.andThen_ok]
 cases es with
 | nil =>
   cases L with
   | nil=>rfl
   | cons p L=>simp [yz] at h
 | cons e es=>exact Qh heq k (e :: es) L 0 w h
end
def yS (p:Int×Int):Value:=.agg #[.int .i64 p.1,.int .i64 p.2]
theorem uPair:qj.underlying 200=some (.struct (qj.fieldsOf 200)):=by kernel_rfl
theorem hPair:qj.stoodInHeld 200=false:=by kernel_rfl
theorem xz {a:Bool} {r:Bool} {x:Sem Bool} {w:World} (h:x.run qj w=.ok r w):(if (!a)=true then (pure false:Sem Bool) else x).run qj w=.ok (a && r) w:=by
 cases a
 ·rfl
 ·simpa using h
theorem jU {y x:Sem Bool} {a r:Bool} {w:World} (hy:y.run qj w=.ok a w) (h:x.run qj w=.ok r w):(y >>= fun b=>if (!b)=true then (pure false:Sem Bool) else x).run qj w=.ok (a && r) w:=by
 rw [Sem.run_bind,hy,Result.andThen_ok]
 exact xz h
theorem eqPair (p q:Int×Int) (w:World):(Op.equal 200 (yS p) (yS q)).run qj w=.ok (decide (p=q)) w:=by
 obtain ⟨a,b⟩:=p
 obtain ⟨a',b'⟩:=q
 show (Op.equalIn (9999+1) 200 _ _).run qj w=_
 rw [yS,yS,run_equalIn_agg w 9999 200 _ _ uPair hPair]
 have e1:(Op.eqFields 9999 #[.int .i64 a,.int .i64 b] #[.int .i64 a',.int .i64 b'] (qj.fieldsOf 200).toList.tail).run qj w=.ok (b == b' && true) w:=by
  exact Eq.trans (by kernel_rfl) (xz (a:=b == b') (x:=pure true) (r:=true) (w:=w) rfl)
 have e0:=xz (a:=a == a') e1
 have:(decide ((a,b)=(a',b')))=(a == a' && (b == b' && true)):=by
  rw [Bool.eq_iff_iff];simp
 rw [this]
 exact Eq.trans (by kernel_rfl) e0
theorem qec:MapTy 198 200 4 yS (.bool false) :=
 ⟨fun _=>by kernel_rfl,fun _ _ _=>by kernel_rfl,YR (qj.fieldsOf 200) (fun _=>by kernel_rfl) eqPair,fun _=>by kernel_rfl,fun k=>by simp [yS,sameBits]⟩
structure SetM where
 p:PastM
 away:Int
 order:Int
 t0:Int
 t1:Int
 t2:Int
deriving DecidableEq
def qL (s:SetM):Value:=.agg #[.int .i64 s.p.a,.int .i64 s.p.b,.int .i64 s.p.c,.int .i64 s.p.d,.int .u64 s.away,.int .i64 s.order,.int .i64 s.t0,.int .i64 s.t1,.int .i64 s.t2]
theorem uSet:qj.underlying 87=some (.struct (qj.fieldsOf 87)):=by kernel_rfl
theorem hSet:qj.stoodInHeld 87=false:=by kernel_rfl
theorem zQ (d:Nat) (xs ys:Array Value) (i:Nat) (is:List Nat) (a b:Int) (r:Bool) (w:World) (hx:xs[i]? = some (.int .i64 a)) (hy:ys[i]? = some (.int .i64 b)) (h:(Op.eqItems (d+1) 3 1 xs ys is).run qj w=.ok r w) :
 (Op.eqItems (d+1) 3 1 xs ys (i :: is)).run qj w=.ok (a == b && r) w:=by
 have px:(part 3 xs (i * 1)).run qj w=.ok (.int .i64 a) w:=by rw [Nat.mul_one];exact run_part_plain w (by kernel_rfl) hx
 have py:(part 3 ys (i * 1)).run qj w=.ok (.int .i64 b) w:=by rw [Nat.mul_one];exact run_part_plain w (by kernel_rfl) hy
 unfold Op.eqItems
 rw [Sem.run_bind,px,Result.andThen_ok,Sem.run_bind,py,Result.andThen_ok]
 exact jU (by kernel_rfl) h
theorem Jq (d n:Nat) (t:TypeId) (hu:qj.underlying t=some (.array n 3)) (xs ys:Array Value) (w:World):(Op.equalIn (d+1) t (.agg xs) (.agg ys)).run qj w=(Op.eqItems d 3 1 xs ys (List.range n)).run qj w:=by
 obtain ⟨i,hi⟩:=info_of_underlying (P:=qj) (t:=3) (d:=.int .i64) (by kernel_rfl)
 have h:=run_equalIn_array (P:=qj) w d xs ys hu hi
 rw [show qj.cellsOf 3=1 by kernel_rfl] at h
 exact h
theorem qcT (d:Nat) (a b c e a' b' c' e':Int) (w:World):(Op.equalIn (d+1+1) 82 (.agg #[.int .i64 a,.int .i64 b,.int .i64 c,.int .i64 e]) (.agg #[.int .i64 a',.int .i64 b',.int .i64 c',.int .i64 e'])).run qj w=.ok (a == a' && (b == b' && (c == c' && (e == e' && true)))) w :=
 (Jq (d+1) 4 82 (by kernel_rfl) _ _ w).trans (zQ d _ _ 0 [1,2,3] a a' _ w rfl rfl (zQ d _ _ 1 [2,3] b b' _ w rfl rfl (zQ d _ _ 2 [3] c c' _ w rfl rfl (zQ d _ _ 3 [] e e' _ w rfl rfl rfl))))
theorem eqTurnV (d:Nat) (a b c a' b' c':Int) (w:World):(Op.equalIn (d+1+1) 85 (.agg #[.int .i64 a,.int .i64 b,.int .i64 c]) (.agg #[.int .i64 a',.int .i64 b',.int .i64 c'])).run qj w=.ok (a == a' && (b == b' && (c == c' && true))) w :=
 (Jq (d+1) 3 85 (by kernel_rfl) _ _ w).trans (zQ d _ _ 0 [1,2] a a' _ w rfl rfl (zQ d _ _ 1 [2] b b' _ w rfl rfl (zQ d _ _ 2 [] c c' _ w rfl rfl rfl)))
section
variable (a b c d e f g h i a' b' c' d' e' f' g' h' i':Int)
def xsS:Array Value:=#[.int .i64 a,.int .i64 b,.int .i64 c,.int .i64 d,.int .u64 e,.int .i64 f,.int .i64 g,.int .i64 h,.int .i64 i]
theorem eqS0 (w:World):(Op.eqFields 9999 (xsS a b c d e f g h i) (xsS a' b' c' d' e' f' g' h' i') (qj.fieldsOf 87).toList).run qj w=(Op.equalIn 9999 82 (.agg #[.int .i64 a,.int .i64 b,.int .i64 c,.int .i64 d]) (.agg #[.int .i64 a',.int .i64 b',.int .i64 c',.int .i64 d']) >>= fun r=>if (!r)=true then (pure false:Sem Bool) else Op.eqFields 9999 (xsS a b c d e f g h i) (xsS a' b' c' d' e' f' g' h' i') (qj.fieldsOf 87).toList.tail).run qj w:=by kernel_rfl
theorem eqS1 (w:World):(Op.eqFields 9999 (xsS a b c d e f g h i) (xsS a' b' c' d' e' f' g' h' i') (qj.fieldsOf 87).toList.tail).run qj w=(if (!(e == e'))=true then (pure false:Sem Bool) else Op.eqFields 9999 (xsS a b c d e f g h i) (xsS a' b' c' d' e' f' g' h' i') (qj.fieldsOf 87).toList.tail.tail).run qj w:=by kernel_rfl
theorem eqS2 (w:World):(Op.eqFields 9999 (xsS a b c d e f g h i) (xsS a' b' c' d' e' f' g' h' i') (qj.fieldsOf 87).toList.tail.tail).run qj w=(if (!(f == f'))=true then (pure false:Sem Bool) else Op.eqFields 9999 (xsS a b c d e f g h i) (xsS a' b' c' d' e' f' g' h' i') (qj.fieldsOf 87).toList.tail.tail.tail).run qj w:=by kernel_rfl
theorem eqS3 (w:World):(Op.eqFields 9999 (xsS a b c d e f g h i) (xsS a' b' c' d' e' f' g' h' i') (qj.fieldsOf 87).toList.tail.tail.tail).run qj w=(Op.equalIn 9999 85 (.agg #[.int .i64 g,.int .i64 h,.int .i64 i]) (.agg #[.int .i64 g',.int .i64 h',.int .i64 i']) >>= fun r=>if (!r)=true then (pure false:Sem Bool) else pure true).run qj w:=by kernel_rfl
end
theorem eqSet (p q:SetM) (w:World):(Op.equal 87 (qL p) (qL q)).run qj w=.ok (decide (p=q)) w:=by
 obtain ⟨⟨a,b,c,d⟩,e,f,g,h,i⟩:=p
 obtain ⟨⟨a',b',c',d'⟩,e',f',g',h',i'⟩:=q
 show (Op.equalIn (9999+1) 87 (.agg (xsS a b c d e f g h i)) (.agg (xsS a' b' c' d' e' f' g' h' i'))).run qj w=_
 rw [run_equalIn_agg w 9999 87 _ _ uSet hSet]
 have e3:=(eqS3 a b c d e f g h i a' b' c' d' e' f' g' h' i' w).trans (jU (x:=pure true) (r:=true) (eqTurnV 9997 g h i g' h' i' w) rfl)
 have e2:=(eqS2 a b c d e f g h i a' b' c' d' e' f' g' h' i' w).trans (xz (a:=f == f') e3)
 have e1:=(eqS1 a b c d e f g h i a' b' c' d' e' f' g' h' i' w).trans (xz (a:=e == e') e2)
 have e0:=(eqS0 a b c d e f g h i a' b' c' d' e' f' g' h' i' w).trans (jU (qcT 9997 a b c d a' b' c' d' w) e1)
 have key:(a == a' && (b == b' && (c == c' && (d == d' && true))) && (e == e' && (f == f' && (g == g' && (h == h' && (i == i' && true)) && true))))=decide ((⟨⟨a,b,c,d⟩,e,f,g,h,i⟩:SetM)=⟨⟨a',b',c',d'⟩,e',f',g',h',i'⟩):=by
  rw [Bool.eq_iff_iff]
  simp only [decide_eq_true_eq,SetM.mk.injEq,PastM.mk.injEq,Bool.and_eq_true,beq_iff_eq]
  constructor
  ·rintro ⟨⟨h1,h2,h3,h4,_⟩,h5,h6,⟨h7,h8,h9,_⟩,_⟩;simp [*]
  ·rintro ⟨⟨h1,h2,h3,h4⟩,h5,h6,h7,h8,h9⟩;simp [*]
 rw [← key]
 exact e0
theorem qed:MapTy 72 87 31 qL (.slice none 0 0) :=
 ⟨fun _=>by kernel_rfl,fun _ _ _=>by kernel_rfl,YR (qj.fieldsOf 87) (fun _=>by kernel_rfl) eqSet,fun _=>by kernel_rfl,fun k=>by simp [qL,sameBits]⟩
theorem qbZ (w:World):(Instr.makeMap 205 none).run qj w=.ok (.map (some w.heap.size)) (w.alloc (.map #[] 0)):=by kernel_rfl
theorem qdU (w:World):(Instr.makeMap 118 none).run qj w=.ok (.map (some w.heap.size)) (w.alloc (.map #[] 0)):=by kernel_rfl
theorem qca (w:World):(Instr.makeMap 198 none).run qj w=.ok (.map (some w.heap.size)) (w.alloc (.map #[] 0)):=by kernel_rfl
theorem Jf (w:World):(Instr.makeMap 72 none).run qj w=.ok (.map (some w.heap.size)) (w.alloc (.map #[] 0)):=by kernel_rfl
end Go.Proofs.Tryz
namespace Go.Proofs.Tryz
open Go Go.Load Go.RowKit
theorem Jv {l m:List Int} {k:Nat} {x y:Int} (h1:l[k]? = some x) (h2:m[k]? = some y) (hn:l.take k=m.take k):(l.take (k+1)=m.take (k+1))↔x=y:=by
 obtain ⟨a,rfl⟩:=List.getElem?_eq_some_iff.1 h1
 obtain ⟨b,rfl⟩:=List.getElem?_eq_some_iff.1 h2
 rw [List.take_succ_eq_append_getElem a,List.take_succ_eq_append_getElem b,hn]
 constructor
 ·intro h;have:=(List.append_cancel_left h);simpa using this
 ·intro h;rw [h]
set_option maxHeartbeats 1000000 in
theorem qcU (l m:List Int) (a b:Option Addr) (c d:Nat) (hl:l.length≤1000) (hm:m.length≤1000) (hc:l.length≤c) (hd:m.length≤d) (w:World) (hA:qh w 1 encI a l) (hB:qh w 1 encI b m) :
 Calls qj 173 #[.slice a l.length c,.slice b m.length d] w fun e w'=>e=.returned (.bool (decide (l=m)))∧Below w.heap.size w w':=by
 by_cases hlm:l.length=m.length
 ·obtain ⟨R,hR⟩:∃R,decide (l=m)=R:=⟨_,rfl⟩
  rw [hR]
  have HR:=Lib.hid hR
  have HLM:=Lib.hid hlm
  clear hR
  rw [← hlm] at hd hm ⊢
  clear hlm
  go_enter (sf 173 f173),ntmps173
  go_wp2
  go_loopw [13] (fun i wr=>∃k:Nat,i=.int .i64 k∧k≤l.length∧Below w.heap.size w wr∧Hid (l.take k=m.take k)) (fun i _=>l.length - (intOf i).toNat)
  case atStart=>exact ⟨0,rfl,Nat.zero_le _,Below.refl _ _,Lib.hid (by simp)⟩
  case round =>
   obtain ⟨k,rfl,hk,hBr,HN⟩:=hrel
   by_cases hlt:k < l.length
   ·obtain ⟨x,hx⟩:∃x,l[k]? = some x:=⟨l[k],by simp [hlt]⟩
    obtain ⟨y,hy⟩:∃x,m[k]? = some x:=⟨m[k]'(by rw [← HLM.out];exact hlt),by simp⟩
    obtain ⟨ab,ao,rfl,hP⟩:=hA (by omega)
    obtain ⟨bb,bo,rfl,hQ⟩:=hB (by rw [← HLM.out];omega)
    have c0:=qb _ hBr (hP k x hx 0 _ rfl)
    have c1:=qb _ hBr (hQ k y hy 0 _ rfl)
    simp only [Nat.mul_one,Nat.add_zero] at c0 c1
    have hkc:(k:Int)≤(c:Int):=by omega
    have hkd:(k:Int)≤(d:Int):=by omega
    have hstep:=Jv hx hy HN.out
    have HS:=Lib.hid hstep
    clear hP hQ hx hy hstep
    by_cases hxy:x=y
    ·subst hxy
     go_wp2
     go_quiet (fail)
     go_wp2
     go_roundw
     case rel=>exact ⟨k+1,rfl,by omega,Zw hBr _,Lib.hid (by simpa using HS.out)⟩
     case measure=>simp [intOf];omega
    ·have hne:(x != y)=true:=by simpa using hxy
     go_wp2
     go_quiet (fail)
     go_wp2
     go_ret
     refine ⟨?_,Zw hBr _⟩
     have:R=false:=by
      rw [← HR.out]
      simp only [decide_eq_false_iff_not]
      intro e
      exact hxy (HS.out.1 (by rw [e]))
     rw [this];rfl
   ·obtain rfl:k=l.length:=by omega
    go_wp2
    go_ret
    refine ⟨?_,by go_grown⟩
    have:R=true:=by
     rw [← HR.out]
     simp only [decide_eq_true_eq]
     have:=HN.out
     rw [List.take_length,HLM.out,List.take_length] at this
     exact this
    rw [this];rfl
 ·have hne:((l.length:Int) != (m.length:Int))=true:=by simp;omega
  have hf:decide (l=m)=false:=by simp only [decide_eq_false_iff_not];intro e;rw [e] at hlm;exact hlm rfl
  rw [hf]
  clear hlm hf hA hB
  go_enter (sf 173 f173),ntmps173
  go_wp2
  go_ret
  exact ⟨rfl,by go_grown⟩
def Qn (g:GrpM) (t:Int):Option Int:=if t=g.one then some g.two else if t=g.two then some g.one else none
def YD (D:DayM) (tw:Int):Int→List Int→List Int→Int
 | t,_,[]=>if t=tw then 0 else 9
 | t,ps,k :: l=>if btw k 0 (D.gs.length - 1)=false then 6 else match D.gs[k.toNat]? with
   | none=>6
   | some g=>match Qn g t with
     | none=>7
     | some n=>if n∈ps then 8 else YD D tw n (n :: ps) l
def qaA (D:DayM) (o:OrdM) (l:List Int):Int:=if btw l.length 1 3=false then 2 else YD D o.toT o.fr [o.fr] l
def YA (ps:List Int) (n:Int):Option Value:=if n∈ps then some (.bool true) else none
theorem QU (ps:List Int) (n:Int):(fun k=>if k=n then some (.bool true) else YA ps k)=YA (n :: ps):=by
 funext k
 unfold YA
 by_cases h:k=n <;> simp [h]
theorem YZ (D:DayM) (tw t:Int) (ps:List Int) {l:List Int} {k:Nat} {x:Int} (h:l[k]? = some x):YD D tw t ps (l.drop k)=if btw x 0 (D.gs.length - 1)=false then 6 else match D.gs[x.toNat]? with
 | none=>6
 | some g=>match Qn g t with
   | none=>7
   | some n=>if n∈ps then 8 else YD D tw n (n :: ps) (l.drop (k+1)):=by
 obtain ⟨hk,rfl⟩:=List.getElem?_eq_some_iff.1 h
 rw [List.drop_eq_getElem_cons hk]
 rfl
theorem B6.grown {w w1:World} {b m:Nat} {x0 x1 x2 x3 x4 x5:Value} (h:B6 w b x0 x1 x2 x3 x4 x5) (hg:w.grownBy w1 (some m)) (hn:b≠m):B6 w1 b x0 x1 x2 x3 x4 x5 :=
 ⟨qI hg h.c0 hn,qI hg h.c1 hn,qI hg h.c2 hn,qI hg h.c3 hn,qI hg h.c4 hn,qI hg h.c5 hn⟩
set_option maxHeartbeats 4000000 in
set_option maxRecDepth 100000 in
theorem way_any (D:DayM) (m:Option Nat) (o:OrdM) (l:List Int) (a:Option Addr) (c:Nat) (w:World) (h:DayAt w D) (hs:DaySm D) (hl:l.length≤20∧l.length≤c) (hA:qh w 1 encI a l) :
 Calls qj 170 #[dm D m,.agg #[.int .i64 o.fr,.int .i64 o.toT,.slice o.a o.ws.length o.c],.slice a l.length c] w fun e w'=>e=.returned (.int .i64 (qaA D o l))∧Below w.heap.size w w':=by
 have hgs:=h.gs
 have hsm:=hs.gs
 obtain ⟨R,hR⟩:∃R,qaA D o l=R:=⟨_,rfl⟩
 rw [hR]
 unfold qaA at hR
 unfold dm
 clear h hs
 obtain ⟨ofr,ow,ows,oa2,oc2⟩:=o
 have hdr:=fun t ps k x (hx:l[k]? = some x)=>YZ D ow t ps hx
 have hnl:∀t ps q,q.length=0→YD D ow t ps q=if t=ow then 0 else 9:=fun t ps q h=>by cases q with | nil=>rfl | cons _ _=>cases h
 generalize YD D ow=WG at *
 obtain ⟨ts,ta,tc,gs,ga,gc,os,oa,oc,hs,ha,hc,cs,ca,cc⟩:=D
 simp only at *
 generalize Value.slice ta ts.length tc=x1
 generalize Value.slice oa os.length oc=x2
 generalize Value.slice ha hs.length hc=x3
 generalize Value.slice ca cs.length cc=x4
 generalize Value.slice oa2 ows.length oc2=x5
 have hwi:=zo l.length 1 3
 obtain ⟨r,hr⟩:∃r,btw l.length 1 3=r:=⟨_,rfl⟩
 rw [hr] at hwi hR
 cases r with
 | false =>
   simp at hR
   subst hR
   clear hgs hA hdr hnl
   go_enter (sf 170 f170),ntmps170
   go_wp2_with (go_at_call 72;(with_reducible refine (hwi _).mono ?_);rintro e w1 ⟨rfl,rfl⟩)
   go_ret
   exact ⟨rfl,by go_grown⟩
 | true =>
   simp at hR
   have HR:=Lib.hid hR
   have HT:=Lib.hid hgs
   have HA:=Lib.hid hA
   have HD:=Lib.hid hdr
   have HN:=Lib.hid hnl
   clear hR hgs hA hr hdr hnl
   go_enter (sf 170 f170),ntmps170
   go_wp2_with (go_at_call 72;(with_reducible refine (hwi _).mono ?_);rintro e w1 ⟨rfl,rfl⟩)
   rw [qbZ]
   go_wp2
   obtain ⟨W,hW⟩:∃W,((w.alloc (Obj.cells #[x1,.slice ga gs.length gc,x2,x3,x4,.map m] 74)).alloc (Obj.cells #[.int .i64 ofr,.int .i64 ow,x5] 64)).alloc (Obj.map #[] 0)=W:=⟨_,rfl⟩
   have h6:B6 W w.heap.size x1 (.slice ga gs.length gc) x2 x3 x4 (.map m):=by subst hW;exact ⟨by go_cell,by go_cell,by go_cell,by go_cell,by go_cell,by go_cell⟩
   have h7:W.cell? ⟨w.heap.size+1,1,none⟩=some (.int .i64 ow):=by subst hW;go_cell
   have h8:jH Zh W (w.heap.size+1+1) (fun _=>none):=by
    have e:=jH.new (enc:=Zh) ((w.alloc (Obj.cells #[x1,.slice ga gs.length gc,x2,x3,x4,.map m] 74)).alloc (Obj.cells #[.int .i64 ofr,.int .i64 ow,x5] 64))
    rw [hW] at e
    simpa using e
   have hBW:Below w.heap.size w W:=by subst hW;go_grown
   have hzW:w.heap.size+1+1 < W.heap.size:=h8.lt
   rw [hW]
   clear hW
   obtain ⟨W1,q1,q2,q3,q4⟩:=xH jX h8 ofr (.bool true)
   have q2:jH Zh W1 (w.heap.size+1+1) (YA [ofr]):=by
    have e:YA [ofr]=fun k'=>if k'=ofr then some (.bool true) else none:=by rw [← QU];rfl
    rw [e];exact q2
   simp only [Zh] at q1
   rw [q1]
   have hB1:Below w.heap.size w W1:=below_grown hBW (Nat.le_refl _) q3 (by omega)
   replace h6:=h6.grown q3 (by omega)
   replace h7:=qI q3 h7 (by simp <;> omega)
   rw [← q4] at hzW
   clear q1 q3 q4 h8 hBW
   go_wp2
   go_loopw [23,7] (fun i q wr=>∃(k:Nat) (t:Int) (ps:List Int),i=.int .i64 k∧q=.int .i64 t∧k≤l.length∧Below w.heap.size w wr∧B6 wr w.heap.size x1 (.slice ga gs.length gc) x2 x3 x4 (.map m)∧wr.cell? ⟨w.heap.size+1,1,none⟩=some (.int .i64 ow)∧jH Zh wr (w.heap.size+1+1) (YA ps)∧w.heap.size+1+1 < wr.heap.size∧Hid (WG t ps (l.drop k)=R)) (fun i _ _=>l.length - (intOf i).toNat)
   case atStart=>exact ⟨0,ofr,[ofr],rfl,rfl,by omega,hB1,h6,h7,q2,hzW,HR⟩
   case round =>
    clear q2 h6 h7 hzW hB1
    obtain ⟨k,t,ps,rfl,rfl,hk,hBw,h6,h7,h8,hzr,HE⟩:=hrel
    have H8:=Lib.hid h8
    obtain ⟨k0,k1,k2,k3,k4,k5⟩:=h6
    have h6:B6 wr w.heap.size x1 (.slice ga gs.length gc) x2 x3 x4 (.map m):=⟨k0,k1,k2,k3,k4,k5⟩
    by_cases hlt:k < l.length
    ·obtain ⟨x,hx⟩:∃x,l[k]? = some x:=⟨l[k],by simp [hlt]⟩
     obtain ⟨ab,ao,rfl,hP⟩:=HA.out (by omega)
     have hkc:(k:Int)≤(c:Int):=by omega
     have c0:=qb _ hBw (hP k x hx 0 _ rfl)
     simp only [Nat.mul_one,Nat.add_zero] at c0
     have hA:=HE.out
     rw [HD.out _ _ _ _ hx] at hA
     clear hP hx
     have hw2:=zo x 0 ((gs.length:Int) - 1)
     have hbt:=Lib.hid (@zM x 0 ((gs.length:Int) - 1))
     generalize btw x 0 ((gs.length:Int) - 1)=r1 at *
     cases r1 with
     | false =>
       have HA:=Lib.hid hA
       clear hA h8
       go_wp2_with (go_at_call 72;(with_reducible refine (hw2 _).mono ?_);rintro e w1 ⟨rfl,rfl⟩)
       go_ret
       exact ⟨by have e:=HA.out;simp at e;rw [← e];rfl,hBw⟩
     | true =>
       obtain ⟨hx0,hx1⟩:=hbt.out.1 rfl
       obtain ⟨n,rfl⟩:=Int.eq_ofNat_of_zero_le hx0
       have hng:n < gs.length:=by omega
       obtain ⟨g,hx⟩:∃x,gs[n]? = some x:=⟨gs[n],by simp [hng]⟩
       obtain ⟨b,o,rfl,hP⟩:=HT.out (by omega)
       have d0:=qb _ hBw (hP n g hx 0 _ rfl)
       have d1:=qb _ hBw (hP n g hx 1 _ rfl)
       have d2:=qb _ hBw (hP n g hx 2 _ rfl)
       have d3:=qb _ hBw (hP n g hx 3 _ rfl)
       simp only [Nat.add_zero] at d0
       have hgc:(n:Int)≤(gc:Int):=by omega
       simp only [Bool.true_eq_false,if_false,Int.toNat_natCast,hx] at hA
       clear hP hx hbt
       obtain ⟨g1,g2,glo,ghi⟩:=g
       simp only at *
       have hBa:Below wr.heap.size wr (wr.alloc (Obj.cells #[.int .i64 g1,.int .i64 g2,.int .i64 glo,.int .i64 ghi] 116)):=(Below.refl _ wr).alloc (Nat.le_refl _) _
       by_cases e1:t=g1
       ·subst e1
        have hnt:Qn ⟨t,g2,glo,ghi⟩ t=some g2:=by unfold Qn;rw [if_pos rfl]
        simp only [hnt] at hA
        have HNT:=Lib.hid hnt
        clear hnt
        by_cases hin:g2∈ps
        ·rw [if_pos hin] at hA
         have HA:=Lib.hid hA
         have hlk:=yj jX (H8.out.keep hBa) g2 false
         simp only [Zh,YA,if_pos hin,Option.getD_some,Bool.false_eq_true,if_false] at hlk
         clear hA h8 hin
         go_wp2_with (go_at_call 72;(with_reducible refine (hw2 _).mono ?_);rintro e w1 ⟨rfl,rfl⟩)
         go_ret
         exact ⟨by rw [← HA.out];rfl,by go_grown⟩
        ·rw [if_neg hin] at hA
         have HA:=Lib.hid hA
         have hlk:=yj jX (H8.out.keep hBa) g2 false
         simp only [Zh,YA,if_neg hin,Option.getD_none,Bool.false_eq_true,if_false] at hlk
         obtain ⟨W2,q1,q2,q3,q4⟩:=xH jX (H8.out.keep hBa) g2 (.bool true)
         rw [QU] at q2
         simp only [Zh] at q1
         have hBx:Below w.heap.size w W2:=below_grown (bcl hBw hBa) (Nat.le_refl _) q3 (by omega)
         have h6x:=(h6.keep hBa).grown q3 (by omega)
         have h7x:=qI q3 (qb _ hBa h7) (by simp <;> omega)
         have hzx:w.heap.size+1+1 < W2.heap.size:=by rw [q4];have:=hBa.size;omega
         have H2:=Lib.hid q2
         clear hA h8 hin q2 q3 q4
         go_wp2_with (go_at_call 72;(with_reducible refine (hw2 _).mono ?_);rintro e w1 ⟨rfl,rfl⟩)
         go_roundw
         case rel=>exact ⟨k+1,g2,g2 :: ps,rfl,rfl,by omega,hBx,h6x,h7x,H2.out,hzx,HA⟩
         case measure=>simp [intOf];omega
       by_cases e2:t=g2
       ·subst e2
        have hf:(t == g1)=false:=by simpa using e1
        have hnt:Qn ⟨g1,t,glo,ghi⟩ t=some g1:=by unfold Qn;rw [if_neg e1,if_pos rfl]
        simp only [hnt] at hA
        have HNT:=Lib.hid hnt
        clear hnt
        by_cases hin:g1∈ps
        ·rw [if_pos hin] at hA
         have HA:=Lib.hid hA
         have hlk:=yj jX (H8.out.keep hBa) g1 false
         simp only [Zh,YA,if_pos hin,Option.getD_some,Bool.false_eq_true,if_false] at hlk
         clear hA h8 hin
         go_wp2_with (go_at_call 72;(with_reducible refine (hw2 _).mono ?_);rintro e w1 ⟨rfl,rfl⟩)
         go_ret
         exact ⟨by rw [← HA.out];rfl,by go_grown⟩
        ·rw [if_neg hin] at hA
         have HA:=Lib.hid hA
         have hlk:=yj jX (H8.out.keep hBa) g1 false
         simp only [Zh,YA,if_neg hin,Option.getD_none,Bool.false_eq_true,if_false] at hlk
         obtain ⟨W2,q1,q2,q3,q4⟩:=xH jX (H8.out.keep hBa) g1 (.bool true)
         rw [QU] at q2
         simp only [Zh] at q1
         have hBx:Below w.heap.size w W2:=below_grown (bcl hBw hBa) (Nat.le_refl _) q3 (by omega)
         have h6x:=(h6.keep hBa).grown q3 (by omega)
         have h7x:=qI q3 (qb _ hBa h7) (by simp <;> omega)
         have hzx:w.heap.size+1+1 < W2.heap.size:=by rw [q4];have:=hBa.size;omega
         have H2:=Lib.hid q2
         clear hA h8 hin q2 q3 q4
         go_wp2_with (go_at_call 72;(with_reducible refine (hw2 _).mono ?_);rintro e w1 ⟨rfl,rfl⟩)
         go_roundw
         case rel=>exact ⟨k+1,g1,g1 :: ps,rfl,rfl,by omega,hBx,h6x,h7x,H2.out,hzx,HA⟩
         case measure=>simp [intOf];omega
       have hf:(t == g1)=false:=by simpa using e1
       have hf2:(t == g2)=false:=by simpa using e2
       have hnt:Qn ⟨g1,g2,glo,ghi⟩ t=none:=by unfold Qn;rw [if_neg e1,if_neg e2]
       simp only [hnt] at hA
       have HA:=Lib.hid hA
       clear hA h8 hnt
       go_wp2_with (go_at_call 72;(with_reducible refine (hw2 _).mono ?_);rintro e w1 ⟨rfl,rfl⟩)
       go_ret
       exact ⟨by rw [← HA.out];rfl,by go_grown⟩
    ·obtain rfl:k=l.length:=by omega
     have hA:=HE.out
     rw [HN.out _ _ _ (by simp)] at hA
     have HA:=Lib.hid hA
     clear hA h8
     by_cases htw:t=ow
     ·subst htw
      go_wp2
      go_ret
      exact ⟨by have e:=HA.out;simp at e;rw [← e];rfl,hBw⟩
     ·have hne:(t != ow)=true:=by simpa using htw
      go_wp2
      go_ret
      exact ⟨by have e:=HA.out;simp [htw] at e;rw [← e];rfl,hBw⟩
theorem qai (x y:WayM) (b:Nat) (hx:x.l.length≤20∧x.l.length≤x.c) (hy:y.l.length≤20∧y.l.length≤y.c) (w:World) (h0:w.cell? ⟨b,0,none⟩=some (.slice x.a x.l.length x.c)) (hX:qh w 1 encI x.a x.l) (hY:qh w 1 encI y.a y.l) :
 Calls qj 172 #[.slice y.a y.l.length y.c,.pointer (some ⟨b,0,none⟩)] w fun e w'=>e=.returned (.bool (decide (x.l=y.l)))∧Below w.heap.size w w':=by
 have heq:=qcU x.l y.l x.a y.a x.c y.c (by omega) (by omega) hx.2 hy.2 w hX hY
 generalize decide (x.l=y.l)=R at *
 obtain ⟨xl,xa,xc⟩:=x
 obtain ⟨yl,ya,yc⟩:=y
 simp only at *
 clear hX hY
 go_enter (sf 172 f172),ntmps172
 go_wp2_with (go_at_call 173;(with_reducible refine heq.mono ?_);rintro e w1 ⟨rfl,hB1⟩)
 go_ret
 exact ⟨rfl,hB1⟩
def XG (D:DayM) (o:OrdM) (i:Nat) (x:WayM):Int:=if qaA D o x.l≠0 then qaA D o x.l else if ((o.ws.take i).any fun y=>decide (x.l=y.l))=true then 5 else 0
def qeg (D:DayM) (met:List (Int×Int)) (o:OrdM):Int:=if zJ D.ts.length o.fr o.toT≠0 then zJ D.ts.length o.fr o.toT else if (o.fr,o.toT)∈met then 5 else if 3 < o.ws.length then 2 else qY (XG D o) 0 o.ws
def yC (D:DayM):List (Int×Int)→List OrdM→Int
 | _,[]=>0
 | met,o :: l=>if qeg D met o≠0 then qeg D met o else yC D ((o.fr,o.toT) :: met) l
def yV (D:DayM):Int:=if 6 < D.os.length then 2 else yC D [] D.os
theorem Qo (D:DayM) (met:List (Int×Int)) {l:List OrdM} {k:Nat} {o:OrdM} (h:l[k]? = some o):yC D met (l.drop k)=if qeg D met o≠0 then qeg D met o else yC D ((o.fr,o.toT) :: met) (l.drop (k+1)):=by
 obtain ⟨hk,rfl⟩:=List.getElem?_eq_some_iff.1 h
 rw [List.drop_eq_getElem_cons hk]
 rfl
def qbY (ps:List (Int×Int)) (n:Int×Int):Option Value:=if n∈ps then some (.bool true) else none
theorem qdS (ps:List (Int×Int)) (n:Int×Int):(fun k=>if k=n then some (.bool true) else qbY ps k)=qbY (n :: ps):=by
 funext k
 unfold qbY
 by_cases h:k=n <;> simp [h]
theorem XN (x:WayM) (l:List WayM) (a:Option Addr) (c:Nat) (b:Nat) (hx:x.l.length≤20∧x.l.length≤x.c) (hl:∀y∈l,y.l.length≤20∧y.l.length≤y.c) (hlen:l.length≤1000) (w:World) (h0:w.cell? ⟨b,0,none⟩=some (.slice x.a x.l.length x.c)) (hX:qh w 1 encI x.a x.l) (hA:qh w 1 xY a l) (hY:∀y∈l,qh w 1 encI y.a y.l) :
 Calls qj 171 #[.slice a l.length c,.func (.func 172) #[] #[.pointer (some ⟨b,0,none⟩)]] w fun e w'=>e=.returned (.bool (l.any fun y=>decide (x.l=y.l)))∧Below w.heap.size w w' :=
 JR 172 #[.pointer (some ⟨b,0,none⟩)] (fun _ _=>by kernel_rfl) (fun y=>decide (x.l=y.l)) l a c hlen (fun W=>Below w.heap.size w W) (fun W hW=>hA.keep hW) w (Below.refl _ _)
  (fun i y hi W (hW:Below w.heap.size w W)=>(qai x y b hx (hl y (List.mem_of_getElem? hi)) W (qb _ hW h0) (hX.keep hW) ((hY y (List.mem_of_getElem? hi)).keep hW)).mono fun e w' ⟨he,hB1⟩=>⟨he,bcl hW hB1⟩)
set_option maxHeartbeats 8000000 in
set_option maxRecDepth 100000 in
theorem qce (D:DayM) (m:Option Nat) (w:World) (h:DayAt w D) (hs:DaySm D):Calls qj 165 #[dm D m] w fun e w'=>e=.returned (.int .i64 (yV D))∧Below w.heap.size w w':=by
 have hos:=h.os
 have hsm:=hs.os
 have hlw:∀o:OrdM,o∈D.os→o.ws.length≤20∧o.ws.length≤o.c:=hs.ws
 have hwy:=fun (o:OrdM) (ho:o∈D.os) (x:WayM) (hx:x∈o.ws) W (hB:Below w.heap.size w W)=>way_any D m o x.l x.a x.c W (h.keep hB) hs (hs.ls o ho x hx) ((h.ls o ho x hx).keep hB)
 have hcb:=fun (o:OrdM) (ho:o∈D.os) (x:WayM) (hx:x∈o.ws) (n:Nat) (hn:n≤o.ws.length) (b:Nat) W (hB:Below w.heap.size w W) (h0:W.cell? ⟨b,0,none⟩=some (.slice x.a x.l.length x.c))=>by
  have e:=XN x (o.ws.take n) o.a o.c b (hs.ls o ho x hx) (fun y hy=>hs.ls o ho y (List.mem_of_mem_take hy)) (by rw [List.length_take];have:=(hs.ws o ho).1;omega) W h0 ((h.ls o ho x hx).keep hB) (((h.ws o ho).keep hB).take n) (fun y hy=>(h.ls o ho y (List.mem_of_mem_take hy)).keep hB)
  rw [List.length_take,Nat.min_eq_left hn] at e
  exact e
 have hrw:=h.ws
 have hen:=fun one two=>Xk D.ta D.ts.length D.tc (by have:=hs.ts.1;omega) (.slice D.ga D.gs.length D.gc) (.slice D.oa D.os.length D.oc) (.slice D.ha D.hs.length D.hc) (.slice D.ca D.cs.length D.cc) (.map m) one two
 obtain ⟨R,hR⟩:∃R,yV D=R:=⟨_,rfl⟩
 rw [hR]
 unfold yV at hR
 have hdr:=fun met k o (hx:D.os[k]? = some o)=>Qo D met hx
 have hnl:∀met q,q.length=0→yC D met q=0:=fun met q h=>by cases q with | nil=>rfl | cons _ _=>cases h
 have hoa:∀met o,qeg D met o=(if zJ D.ts.length o.fr o.toT≠0 then zJ D.ts.length o.fr o.toT else if (o.fr,o.toT)∈met then 5 else if 3 < o.ws.length then 2 else qY (XG D o) 0 o.ws):=fun _ _=>rfl
 have hwa:∀o i x,XG D o i x=(if qaA D o x.l≠0 then qaA D o x.l else if ((o.ws.take i).any fun y=>decide (x.l=y.l))=true then 5 else 0):=fun _ _ _=>rfl
 have HDR:=Lib.hid hdr
 have HNL:=Lib.hid hnl
 have HOA:=Lib.hid hoa
 have HWA:=Lib.hid hwa
 have HWY:=Lib.hid hwy
 have HCB:=Lib.hid hcb
 have HEN:=Lib.hid hen
 have HOS:=Lib.hid hos
 have HRW:=Lib.hid hrw
 have HLW:=Lib.hid hlw
 clear hdr hnl hoa hwa hwy hcb hen hos hrw h hs hlw
 unfold dm at *
 generalize yC D=OG at *
 generalize qeg D=OA at *
 generalize XG D=WT at *
 generalize qaA D=WA at *
 obtain ⟨ts,ta,tc,gs,ga,gc,os,oa,oc,hs,ha,hc,cs,ca,cc⟩:=D
 simp only at *
 generalize Value.slice ta ts.length tc=x1 at *
 generalize Value.slice ga gs.length gc=x2 at *
 generalize Value.slice ha hs.length hc=x3 at *
 generalize Value.slice ca cs.length cc=x4 at *
 generalize ts.length=N at *
 by_cases hlen:6 < os.length
 ·simp [hlen] at hR
  subst hR
  clear HDR HNL HOA HWA HWY HCB HEN HOS HRW HLW
  go_enter (sf 165 f165),ntmps165
  go_wp2
  go_ret
  exact ⟨rfl,by go_grown⟩
 ·simp [hlen] at hR
  have HR:=Lib.hid hR
  clear hR
  have hmk:=qca
  go_enter (sf 165 f165),ntmps165
  go_wp2
  obtain ⟨W,hW⟩:∃W,(w.alloc (Obj.cells #[x1,x2,.slice oa os.length oc,x3,x4,.map m] 74)).alloc (Obj.map #[] 0)=W:=⟨_,rfl⟩
  have h6:B6 W w.heap.size x1 x2 (.slice oa os.length oc) x3 x4 (.map m):=by subst hW;exact ⟨by go_cell,by go_cell,by go_cell,by go_cell,by go_cell,by go_cell⟩
  have h8:jH yS W (w.heap.size+1) (qbY []):=by
   have e:=jH.new (enc:=yS) (w.alloc (Obj.cells #[x1,x2,.slice oa os.length oc,x3,x4,.map m] 74))
   rw [hW] at e
   have e2:qbY []=fun _=>none:=by funext n;simp [qbY]
   rw [e2]
   simpa using e
  have hBW:Below w.heap.size w W:=by subst hW;go_grown
  rw [hW]
  clear hW hmk
  go_loopw [20] (fun i wr=>∃(k:Nat) (ps:List (Int×Int)),i=.int .i64 k∧k≤os.length∧Below w.heap.size w wr∧B6 wr w.heap.size x1 x2 (.slice oa os.length oc) x3 x4 (.map m)∧jH yS wr (w.heap.size+1) (qbY ps)∧Hid (OG ps (os.drop k)=R)) (fun i _=>os.length - (intOf i).toNat)
  case atStart=>exact ⟨0,[],rfl,by omega,hBW,h6,h8,HR⟩
  case round =>
   clear h6 h8 hBW
   obtain ⟨k,ps,rfl,hk,hBw,h6,h8,HE⟩:=hrel
   have hzr:=h8.lt
   have hz0:w.heap.size < wr.heap.size:=by omega
   obtain ⟨k0,k1,k2,k3,k4,k5⟩:=h6
   have h6:B6 wr w.heap.size x1 x2 (.slice oa os.length oc) x3 x4 (.map m):=⟨k0,k1,k2,k3,k4,k5⟩
   by_cases hlt:k < os.length
   ·obtain ⟨o,hx⟩:∃x,os[k]? = some x:=⟨os[k],by simp [hlt]⟩
    obtain ⟨ab,ao,rfl,hP⟩:=HOS.out (by omega)
    have hkc:(k:Int)≤(oc:Int):=by omega
    have c0:=qb _ hBw (hP k o hx 0 _ rfl)
    have c1:=qb _ hBw (hP k o hx 1 _ rfl)
    have c2:=qb _ hBw (hP k o hx 2 _ rfl)
    simp only [Nat.add_zero] at c0
    have hom:=List.mem_of_getElem? hx
    have hA:=HE.out
    rw [HDR.out _ _ _ hx,HOA.out] at hA
    have hen:=HEN.out o.fr o.toT
    have hwy:=fun x hx=>HWY.out o hom x hx
    have hcb:=fun x hx=>HCB.out o hom x hx
    have hrw:=HRW.out o hom
    have hlw:=HLW.out o hom
    have hwa:=HWA.out o
    clear hP hx HEN HWY HCB HRW HLW HWA HOA hom
    have hlk:∀W1,Below (wr.alloc (Obj.cells #[.int .i64 o.fr,.int .i64 o.toT,.slice o.a o.ws.length o.c] 64)).heap.size (wr.alloc (Obj.cells #[.int .i64 o.fr,.int .i64 o.toT,.slice o.a o.ws.length o.c] 64)) W1→(Instr.lookup 198 (.map (some (w.heap.size+1))) (.agg #[.int .i64 o.fr,.int .i64 o.toT]) false).run qj W1=.ok ((qbY ps (o.fr,o.toT)).getD (.bool false)) W1:=fun W1 hB=>by
     have hBa:=bcl ((Below.refl _ wr).alloc (Nat.le_refl _) (Obj.cells #[.int .i64 o.fr,.int .i64 o.toT,.slice o.a o.ws.length o.c] 64)) hB
     have e:=yj qec (h8.keep hBa) (o.fr,o.toT) false
     simpa [yS] using e
    have hup:∀W1,Below (wr.alloc (Obj.cells #[.int .i64 o.fr,.int .i64 o.toT,.slice o.a o.ws.length o.c] 64)).heap.size (wr.alloc (Obj.cells #[.int .i64 o.fr,.int .i64 o.toT,.slice o.a o.ws.length o.c] 64)) W1→∃W2,(Instr.mapUpdate 198 (.map (some (w.heap.size+1))) (.agg #[.int .i64 o.fr,.int .i64 o.toT]) (.bool true)).run qj W1=.ok () W2 ∧
     Hid (jH yS W2 (w.heap.size+1) (qbY ((o.fr,o.toT) :: ps)))∧Hid (Below w.heap.size w W2)∧B6 W2 w.heap.size x1 x2 (.slice (some ⟨ab,ao,none⟩) os.length oc) x3 x4 (.map m)∧W2.cell? ⟨wr.heap.size,0,none⟩=some (.int .i64 o.fr)∧W2.cell? ⟨wr.heap.size,1,none⟩=some (.int .i64 o.toT)∧W2.cell? ⟨wr.heap.size,2,none⟩=some (.slice o.a o.ws.length o.c):=fun W1 hB=>by
     have hBa:=bcl ((Below.refl _ wr).alloc (Nat.le_refl _) (Obj.cells #[.int .i64 o.fr,.int .i64 o.toT,.slice o.a o.ws.length o.c] 64)) hB
     obtain ⟨W2,q1,q2,q3,q4⟩:=xH qec (h8.keep hBa) (o.fr,o.toT) (.bool true)
     rw [qdS] at q2
     exact ⟨W2,q1,Lib.hid q2,Lib.hid (below_grown (bcl hBw hBa) (Nat.le_refl _) q3 (by omega)),(h6.keep hBa).grown q3 (by omega),qI q3 (qb _ hB (by go_cell)) (by simp;omega),qI q3 (qb _ hB (by go_cell)) (by simp;omega),qI q3 (qb _ hB (by go_cell)) (by simp;omega)⟩
    have HLK:=Lib.hid hlk
    have HUP:=Lib.hid hup
    clear hlk hup h8
    obtain ⟨fr,tw,ws,wa,wc⟩:=o
    simp only at *
    generalize zJ N fr tw=E at *
    by_cases hE:E=0
    ·subst hE
     simp only [ne_eq,not_true_eq_false,if_false] at hA
     by_cases hin:(fr,tw)∈ps
     ·rw [if_pos hin] at hA
      have HA:=Lib.hid hA
      have hf:(qbY ps (fr,tw)).getD (.bool false)=.bool true:=by simp [qbY,hin]
      rw [hf] at HLK
      clear hA hf hin hrw hlw hcb hwy
      go_wp2_with (go_at_call 167;(with_reducible refine (hen _).mono ?_);rintro e w1 ⟨rfl,hB1⟩;have hB2:=Below.call (B:=w.heap.size) (w:=w) (by go_grown) hB1 (Nat.le_refl _);obtain ⟨hc,hg⟩:=zH hB1;have hz1:=hB1.size;simp at hz1;have hlk:=HLK.out _ hB1)
      go_ret
      exact ⟨by have e:=HA.out;simp at e;rw [← e];rfl,by go_grown⟩
     ·rw [if_neg hin] at hA
      have hf:(qbY ps (fr,tw)).getD (.bool false)=.bool false:=by simp [qbY,hin]
      rw [hf] at HLK
      clear hf hin
      by_cases hl3:3 < ws.length
      ·rw [if_pos hl3] at hA
       have HA:=Lib.hid hA
       clear hA hrw hlw hcb hwy
       go_wp2_with (go_at_call 167;(with_reducible refine (hen _).mono ?_);rintro e w1 ⟨rfl,hB1⟩;have hB2:=Below.call (B:=w.heap.size) (w:=w) (by go_grown) hB1 (Nat.le_refl _);obtain ⟨hc,hg⟩:=zH hB1;have hz1:=hB1.size;simp at hz1;have hlk:=HLK.out _ hB1;obtain ⟨W2,hup,q2,q3,q4,q5,q6,q7⟩:=HUP.out _ hB1;obtain ⟨j0,j1,j2,j3,j4,j5⟩:=q4)
       go_ret
       exact ⟨by have e:=HA.out;simp at e;rw [← e];rfl,q3.out⟩
      ·rw [if_neg hl3] at hA
       have HA:=Lib.hid hA
       have HCB:=Lib.hid hcb
       have HWY:=Lib.hid hwy
       have HRW:=Lib.hid hrw
       have HWA:=Lib.hid hwa
       clear hA hcb hwy hrw hwa
       go_wp2_with (go_at_call 167;(with_reducible refine (hen _).mono ?_);rintro e w1 ⟨rfl,hB1⟩;have hB2:=Below.call (B:=w.heap.size) (w:=w) (by go_grown) hB1 (Nat.le_refl _);obtain ⟨hc,hg⟩:=zH hB1;have hz1:=hB1.size;simp at hz1;have hlk:=HLK.out _ hB1;obtain ⟨W2,hup,q2,q3,q4,q5,q6,q7⟩:=HUP.out _ hB1;obtain ⟨j0,j1,j2,j3,j4,j5⟩:=q4)
       have q3:=q3.out
       obtain ⟨R2,hR2⟩:∃r,qY (WT ⟨fr,tw,ws,wa,wc⟩) 0 ws=r:=⟨_,rfl⟩
       rw [hR2] at HA
       have HR2:=Lib.hid hR2
       have hwsl:ws.length≤3:=by omega
       have hzo:wr.heap.size < W2.heap.size:=lt_of_cell q5
       have hzw:w.heap.size < W2.heap.size:=lt_of_cell j0
       clear hR2 hlk hup hB1 hB2 hc hg hz1 HUP HLK c0 c1 c2 k0 k1 k2 k3 k4 k5 h6
       have hzv:w.heap.size < wr.heap.size:=hz0
       obtain ⟨V,hV⟩:∃V,V=wr:=⟨_,rfl⟩
       subst hV
       go_loopw [53] (fun i wr=>∃j:Nat,i=.int .i64 j∧j≤ws.length∧Below W2.heap.size W2 wr∧Hid (qY (WT ⟨fr,tw,ws,wa,wc⟩) j (ws.drop j)=R2)) (fun i _=>ws.length - (intOf i).toNat)
       case atStart=>exact ⟨0,rfl,by omega,Below.refl _ _,HR2⟩
       case round =>
        obtain ⟨j,rfl,hj,hBr,HF⟩:=hrel
        replace j0:=qb _ hBr j0
        replace j1:=qb _ hBr j1
        replace j2:=qb _ hBr j2
        replace j3:=qb _ hBr j3
        replace j4:=qb _ hBr j4
        replace j5:=qb _ hBr j5
        replace q5:=qb _ hBr q5
        replace q6:=qb _ hBr q6
        replace q7:=qb _ hBr q7
        have hzx:=hBr.size
        have hz3:V.heap.size < wr.heap.size:=by omega
        have hz4:w.heap.size < wr.heap.size:=by omega
        have hBy:=bcl q3 hBr
        by_cases hlj:j < ws.length
        ·obtain ⟨x,hx⟩:∃x,ws[j]? = some x:=⟨ws[j],by simp [hlj]⟩
         obtain ⟨bb,bo,rfl,hP⟩:=HRW.out (by show 1≤ws.length;omega)
         have hjc:(j:Int)≤(wc:Int):=by have:=hlw.2;omega
         have d0:=qb _ hBy (hP j x hx 0 _ rfl)
         simp only [Nat.mul_one,Nat.add_zero] at d0
         have hF:=HF.out
         rw [zB _ hx,HWA.out] at hF
         have hwy:=HWY.out x (List.mem_of_getElem? hx)
         have hcb:=HCB.out x (List.mem_of_getElem? hx) j hj wr.heap.size
         clear hP hx
         try simp only at hwy
         try simp only at hcb
         try simp only at hF
         generalize WA ⟨fr,tw,ws,some ⟨bb,bo,none⟩,wc⟩ x.l=A at *
         generalize ((ws.take j).any fun y=>decide (x.l=y.l))=B at *
         by_cases hA0:A=0
         ·subst hA0
          simp only [ne_eq,not_true_eq_false,if_false] at hF
          cases B with
          | true =>
            have HF:=Lib.hid hF
            clear hF
            go_wp2_with (first | (go_at_call 170;(with_reducible refine (hwy _ (by go_grown)).mono ?_);rintro e w1 ⟨rfl,hB1⟩;have hB5:=Below.call (B:=w.heap.size) (w:=w) (by go_grown) hB1 (Nat.le_refl _);have hB6:=Below.call (B:=W2.heap.size) (w:=W2) (by go_grown) hB1 (Nat.le_refl _);obtain ⟨hc,hg⟩:=zH hB1;have hz1:=hB1.size;simp at hz1;have p0:=qb ⟨wr.heap.size,0,none⟩ hB1 (v:=.slice x.a x.l.length x.c) (by go_cell)) | (go_at_call 171;(with_reducible refine (hcb _ hB5 p0).mono ?_);rintro e w2 ⟨rfl,hB7⟩;have hB5:=bcl hB5 hB7;have hB6:=bcl hB6 hB7))
            go_ret
            exact ⟨by have e:=HF.out;simp at e;have e2:=HA.out;rw [← e] at e2;simp at e2;rw [← e2];rfl,hB5⟩
          | false =>
            have HF:=Lib.hid hF
            clear hF
            go_wp2_with (first | (go_at_call 170;(with_reducible refine (hwy _ (by go_grown)).mono ?_);rintro e w1 ⟨rfl,hB1⟩;have hB5:=Below.call (B:=w.heap.size) (w:=w) (by go_grown) hB1 (Nat.le_refl _);have hB6:=Below.call (B:=W2.heap.size) (w:=W2) (by go_grown) hB1 (Nat.le_refl _);obtain ⟨hc,hg⟩:=zH hB1;have hz1:=hB1.size;simp at hz1;have p0:=qb ⟨wr.heap.size,0,none⟩ hB1 (v:=.slice x.a x.l.length x.c) (by go_cell)) | (go_at_call 171;(with_reducible refine (hcb _ hB5 p0).mono ?_);rintro e w2 ⟨rfl,hB7⟩;have hB5:=bcl hB5 hB7;have hB6:=bcl hB6 hB7))
            go_roundw
            case rel=>exact ⟨j+1,rfl,by omega,hB6,Lib.hid (by simpa using HF.out)⟩
            case measure=>simp [intOf];omega
         ·have hne2:(A != 0)=true:=by simpa using hA0
          have HF:=Lib.hid hF
          clear hF hA0
          go_wp2_with (first | (go_at_call 170;(with_reducible refine (hwy _ (by go_grown)).mono ?_);rintro e w1 ⟨rfl,hB1⟩;have hB5:=Below.call (B:=w.heap.size) (w:=w) (by go_grown) hB1 (Nat.le_refl _);have hB6:=Below.call (B:=W2.heap.size) (w:=W2) (by go_grown) hB1 (Nat.le_refl _);obtain ⟨hc,hg⟩:=zH hB1;have hz1:=hB1.size;simp at hz1;have p0:=qb ⟨wr.heap.size,0,none⟩ hB1 (v:=.slice x.a x.l.length x.c) (by go_cell)) | (go_at_call 171;(with_reducible refine (hcb _ hB5 p0).mono ?_);rintro e w2 ⟨rfl,hB7⟩;have hB5:=bcl hB5 hB7;have hB6:=bcl hB6 hB7))
          go_ret
          exact ⟨by have e:=HF.out
                    have g:A≠0:=by simpa using hne2
                    rw [if_pos g,if_pos g] at e;have e2:=HA.out;rw [← e,if_pos g] at e2;rw [← e2];rfl,hB5⟩
        ·obtain rfl:j=ws.length:=by omega
         have hF:=HF.out
         rw [List.drop_eq_nil_of_le (Nat.le_refl _)] at hF
         have hF0:R2=0:=hF.symm
         have hA:=HA.out
         rw [hF0] at hA
         have HA:=Lib.hid hA
         clear hF hA
         go_wp2
         go_roundw
         case rel=>exact ⟨k+1,(fr,tw) :: ps,rfl,by omega,hBy,⟨j0,j1,j2,j3,j4,j5⟩,q2.out.keep hBr,Lib.hid (by simpa using HA.out)⟩
         case measure=>simp [intOf];omega
    ·have hne:(E != 0)=true:=by simpa using hE
     have HA:=Lib.hid hA
     clear hA hE hrw hlw hcb hwy
     go_wp2_with (go_at_call 167;(with_reducible refine (hen _).mono ?_);rintro e w1 ⟨rfl,hB1⟩;have hB2:=Below.call (B:=w.heap.size) (w:=w) (by go_grown) hB1 (Nat.le_refl _);obtain ⟨hc,hg⟩:=zH hB1;have hz1:=hB1.size;simp at hz1)
     go_ret
     exact ⟨by have e:=HA.out;have g:E≠0:=by simpa using hne
               rw [if_pos g,if_pos g] at e;rw [← e];rfl,by go_grown⟩
   ·obtain rfl:k=os.length:=by omega
    have hA:=HE.out
    rw [HNL.out _ _ (by simp)] at hA
    have HA:=Lib.hid hA
    clear hA h8
    go_wp2
    go_ret
    exact ⟨by rw [← HA.out];rfl,hBw⟩
def checkN (D:DayM):Int:=if jN D≠0 then jN D else if zS D≠0 then zS D else if yV D≠0 then yV D else if xR D≠0 then xR D else xX D
theorem Globs.keep {w w1:World} (h:Globs w) (hB:Below w.heap.size w w1):Globs w1:=⟨fun i v hv=>qb _ hB (h.c i v hv)⟩
set_option maxHeartbeats 4000000 in
set_option maxRecDepth 100000 in
theorem Zc (D:DayM) (w:World) (h:DayAt w D) (hs:DaySm D) (hG:Globs w):Calls qj 100 #[dv D] w fun e w'=>e=.returned (.int .i64 (checkN D))∧Below w.heap.size w w':=by
 have h0:=fun W (hB:Below w.heap.size w W)=>qeN D none W (h.keep hB) hs
 have h1:=fun W (hB:Below w.heap.size w W)=>qbO D none W (h.keep hB) hs
 have h2:=fun W (hB:Below w.heap.size w W)=>qce D none W (h.keep hB) hs
 have h3:=fun W (hB:Below w.heap.size w W)=>qds D none W (h.keep hB) hs
 have h4:=fun W (hB:Below w.heap.size w W)=>qcM D none W (h.keep hB) hs
 have g0:w.cell? ⟨0,0,none⟩=some (fOf 163):=hG.c 0 _ rfl
 have g1:w.cell? ⟨0,1,none⟩=some (fOf 164):=hG.c 1 _ rfl
 have g2:w.cell? ⟨0,2,none⟩=some (fOf 165):=hG.c 2 _ rfl
 have g3:w.cell? ⟨0,3,none⟩=some (fOf 166):=hG.c 3 _ rfl
 have g4:w.cell? ⟨0,4,none⟩=some (fOf 161):=hG.c 4 _ rfl
 have l0:=lt_of_cell g0
 simp only at l0
 have i0:∀w,(Instr.index 157 (.agg #[fOf 163,fOf 164,fOf 165,fOf 166,fOf 161]) (.int .i64 0)).run qj w=.ok (fOf 163) w:=fun _=>by kernel_rfl
 have i1:∀w,(Instr.index 157 (.agg #[fOf 163,fOf 164,fOf 165,fOf 166,fOf 161]) (.int .i64 1)).run qj w=.ok (fOf 164) w:=fun _=>by kernel_rfl
 have i2:∀w,(Instr.index 157 (.agg #[fOf 163,fOf 164,fOf 165,fOf 166,fOf 161]) (.int .i64 2)).run qj w=.ok (fOf 165) w:=fun _=>by kernel_rfl
 have i3:∀w,(Instr.index 157 (.agg #[fOf 163,fOf 164,fOf 165,fOf 166,fOf 161]) (.int .i64 3)).run qj w=.ok (fOf 166) w:=fun _=>by kernel_rfl
 have i4:∀w,(Instr.index 157 (.agg #[fOf 163,fOf 164,fOf 165,fOf 166,fOf 161]) (.int .i64 4)).run qj w=.ok (fOf 161) w:=fun _=>by kernel_rfl
 unfold checkN
 generalize jN D=r0 at *
 generalize zS D=r1 at *
 generalize yV D=r2 at *
 generalize xR D=r3 at *
 generalize xX D=r4 at *
 have H0:=Lib.hid h0
 have H1:=Lib.hid h1
 have H2:=Lib.hid h2
 have H3:=Lib.hid h3
 have H4:=Lib.hid h4
 clear h0 h1 h2 h3 h4 h hs hG
 unfold dv dm at *
 obtain ⟨ts,ta,tc,gs,ga,gc,os,oa,oc,hs,ha,hc,cs,ca,cc⟩:=D
 simp only [fOf] at *
 generalize Value.slice ta ts.length tc=x0 at *
 generalize Value.slice ga gs.length gc=x1 at *
 generalize Value.slice oa os.length oc=x2 at *
 generalize Value.slice ha hs.length hc=x3 at *
 generalize Value.slice ca cs.length cc=x4 at *
 go_enter (sf 100 f100),ntmps100
 go_wp2
 refine wp_loop_rounds 6 ?_
 by_cases z0:r0≠0
 have hne:(r0 != 0)=true:=by simpa using z0
 rotate_left 1
 obtain rfl:r0=0:=by simpa using z0
 all_goals
  rw [rounds_succ]
  go_wp2_with (go_at_call 163;(with_reducible refine (H0.out _ (by go_grown)).mono ?_);rintro e w1 ⟨rfl,hB1⟩;have hB2:=Below.call (B:=w.heap.size) (w:=w) (by go_grown) hB1 (Nat.le_refl _);have k0:=qb ⟨w.heap.size,0,none⟩ hB1 (v:=x0) (by first | assumption | go_cell);have k1:=qb ⟨w.heap.size,1,none⟩ hB1 (v:=x1) (by first | assumption | go_cell);have k2:=qb ⟨w.heap.size,2,none⟩ hB1 (v:=x2) (by first | assumption | go_cell);have k3:=qb ⟨w.heap.size,3,none⟩ hB1 (v:=x3) (by first | assumption | go_cell);have k4:=qb ⟨w.heap.size,4,none⟩ hB1 (v:=x4) (by first | assumption | go_cell))
 rotate_left 1
 ·go_ret
  exact ⟨by simp [z0],hB2⟩
 by_cases z1:r1≠0
 have hne:(r1 != 0)=true:=by simpa using z1
 rotate_left 1
 obtain rfl:r1=0:=by simpa using z1
 all_goals
  rw [rounds_succ]
  go_wp2_with (go_at_call 164;(with_reducible refine (H1.out _ hB2).mono ?_);rintro e w2 ⟨rfl,hB1⟩;have hB2:=Below.call (B:=w.heap.size) (w:=w) hB2 hB1 (Nat.le_refl _);have k0:=qb ⟨w.heap.size,0,none⟩ hB1 (v:=x0) (by first | assumption | go_cell);have k1:=qb ⟨w.heap.size,1,none⟩ hB1 (v:=x1) (by first | assumption | go_cell);have k2:=qb ⟨w.heap.size,2,none⟩ hB1 (v:=x2) (by first | assumption | go_cell);have k3:=qb ⟨w.heap.size,3,none⟩ hB1 (v:=x3) (by first | assumption | go_cell);have k4:=qb ⟨w.heap.size,4,none⟩ hB1 (v:=x4) (by first | assumption | go_cell))
 rotate_left 1
 ·go_ret
  exact ⟨by simp [z1],hB2⟩
 by_cases z2:r2≠0
 have hne:(r2 != 0)=true:=by simpa using z2
 rotate_left 1
 obtain rfl:r2=0:=by simpa using z2
 all_goals
  rw [rounds_succ]
  go_wp2_with (go_at_call 165;(with_reducible refine (H2.out _ hB2).mono ?_);rintro e w3 ⟨rfl,hB1⟩;have hB2:=Below.call (B:=w.heap.size) (w:=w) hB2 hB1 (Nat.le_refl _);have k0:=qb ⟨w.heap.size,0,none⟩ hB1 (v:=x0) (by first | assumption | go_cell);have k1:=qb ⟨w.heap.size,1,none⟩ hB1 (v:=x1) (by first | assumption | go_cell);have k2:=qb ⟨w.heap.size,2,none⟩ hB1 (v:=x2) (by first | assumption | go_cell);have k3:=qb ⟨w.heap.size,3,none⟩ hB1 (v:=x3) (by first | assumption | go_cell);have k4:=qb ⟨w.heap.size,4,none⟩ hB1 (v:=x4) (by first | assumption | go_cell))
 rotate_left 1
 ·go_ret
  exact ⟨by simp [z2],hB2⟩
 by_cases z3:r3≠0
 have hne:(r3 != 0)=true:=by simpa using z3
 rotate_left 1
 obtain rfl:r3=0:=by simpa using z3
 all_goals
  rw [rounds_succ]
  go_wp2_with (go_at_call 166;(with_reducible refine (H3.out _ hB2).mono ?_);rintro e w4 ⟨rfl,hB1⟩;have hB2:=Below.call (B:=w.heap.size) (w:=w) hB2 hB1 (Nat.le_refl _);have k0:=qb ⟨w.heap.size,0,none⟩ hB1 (v:=x0) (by first | assumption | go_cell);have k1:=qb ⟨w.heap.size,1,none⟩ hB1 (v:=x1) (by first | assumption | go_cell);have k2:=qb ⟨w.heap.size,2,none⟩ hB1 (v:=x2) (by first | assumption | go_cell);have k3:=qb ⟨w.heap.size,3,none⟩ hB1 (v:=x3) (by first | assumption | go_cell);have k4:=qb ⟨w.heap.size,4,none⟩ hB1 (v:=x4) (by first | assumption | go_cell))
 rotate_left 1
 ·go_ret
  exact ⟨by simp [z3],hB2⟩
 by_cases z4:r4≠0
 have hne:(r4 != 0)=true:=by simpa using z4
 rotate_left 1
 obtain rfl:r4=0:=by simpa using z4
 all_goals
  rw [rounds_succ]
  go_wp2_with (go_at_call 161;(with_reducible refine (H4.out _ hB2).mono ?_);rintro e w5 ⟨rfl,hB1⟩;have hB2:=Below.call (B:=w.heap.size) (w:=w) hB2 hB1 (Nat.le_refl _);have k0:=qb ⟨w.heap.size,0,none⟩ hB1 (v:=x0) (by first | assumption | go_cell);have k1:=qb ⟨w.heap.size,1,none⟩ hB1 (v:=x1) (by first | assumption | go_cell);have k2:=qb ⟨w.heap.size,2,none⟩ hB1 (v:=x2) (by first | assumption | go_cell);have k3:=qb ⟨w.heap.size,3,none⟩ hB1 (v:=x3) (by first | assumption | go_cell);have k4:=qb ⟨w.heap.size,4,none⟩ hB1 (v:=x4) (by first | assumption | go_cell))
 rotate_left 1
 ·go_ret
  exact ⟨by simp [z4],hB2⟩
 rw [rounds_succ]
 go_wp2
 go_ret
 exact ⟨by simp,hB2⟩
end Go.Proofs.Tryz
namespace Go.Proofs.Tryz
open Go Go.Load Go.LoadR Go.RowKit
theorem QB (w:World):(isAgg 74).run qj w=.ok true w:=by kernel_rfl
theorem jD (w:World):(Go.sizeOf 74).run qj w=.ok 6 w:=by kernel_rfl
def dz:Value:=.agg #[.slice none 0 0,.slice none 0 0,.slice none 0 0,.slice none 0 0,.slice none 0 0,.map none]
set_option maxHeartbeats 4000000 in
set_option maxRecDepth 100000 in
theorem Xz (D:DayM) (w:World) (h:DayAt w D) (hs:DaySm D) (hG:Globs w) (hz:checkN D≠0):Calls qj 66 #[dv D] w fun e w'=>e=.returned (.tuple #[dz,.int .i64 (checkN D)])∧Below w.heap.size w w':=by
 have hch:=fun W (hB:Below w.heap.size w W)=>Zc D W (h.keep hB) hs (hG.keep hB)
 generalize checkN D=r at *
 unfold dv dz at *
 clear h hG hs
 obtain ⟨ts,ta,tc,gs,ga,gc,os,oa,oc,hs,ha,hc,cs,ca,cc⟩:=D
 simp only at *
 have hb:(r != 0)=true:=by simp [hz]
 clear hz
 generalize Value.slice ta ts.length tc=x0 at *
 generalize Value.slice ga gs.length gc=x1 at *
 generalize Value.slice oa os.length oc=x2 at *
 generalize Value.slice ha hs.length hc=x3 at *
 generalize Value.slice ca cs.length cc=x4 at *
 go_enter (sf 66 f66),ntmps66
 go_wp2_with (go_at_call 100;refine (hch _ (by go_grown)).mono ?_;rintro e w1 ⟨rfl,hB1⟩;(first | (replace hB:=bcl (by with_reducible assumption) hB1) | (replace hB:=bcl (by go_grown) hB1) | (have hB:=hB1));(try clear hc hg hz);obtain ⟨hc,hg⟩:=zH hB;have hz:=hB.size;clear hB1;(try simp at hz);(try have hlt0:w.heap.size < w1.heap.size:=by omega))
 refine qes results66 QB jD rfl rfl (u0:=.slice none 0 0) (u1:=.slice none 0 0) (u2:=.slice none 0 0) (u3:=.slice none 0 0) (u4:=.slice none 0 0) (u5:=.map none) ?_ ?_ ?_ ?_ ?_ ?_ ⟨rfl,?_⟩
 ·rw [hc _ _ (by simp)];go_cell
 ·rw [hc _ _ (by simp)];go_cell
 ·rw [hc _ _ (by simp)];go_cell
 ·rw [hc _ _ (by simp)];go_cell
 ·rw [hc _ _ (by simp)];go_cell
 ·rw [hc _ _ (by simp)];go_cell
 ·exact LoadR.Below.set6 (bcl (w:=w) (by go_grown) hB) (by simp)
set_option maxHeartbeats 4000000 in
set_option maxRecDepth 100000 in
theorem XA (D:DayM) (w:World) (h:DayAt w D) (hs:DaySm D) (hG:Globs w) (hz:checkN D=0):Calls qj 66 #[dv D] w fun e w'=>∃M,e=.returned (.tuple #[dm D (some M),.int .i64 0])∧w.heap.size≤M∧jH qL w' M (fun _=>none)∧Below w.heap.size w w':=by
 have hch:=fun W (hB:Below w.heap.size w W)=>Zc D W (h.keep hB) hs (hG.keep hB)
 rw [hz] at hch
 unfold dv dm at *
 clear h hG hs hz
 obtain ⟨ts,ta,tc,gs,ga,gc,os,oa,oc,hs,ha,hc,cs,ca,cc⟩:=D
 simp only at *
 go_enter (sf 66 f66),ntmps66
 go_wp2_with (go_at_call 100;refine (hch _ (by go_grown)).mono ?_;rintro e w1 ⟨rfl,hB1⟩;have hzz:w.heap.size+1 < w1.heap.size:=(by have:=hB1.size;simp at this;omega);have q0:=qb ⟨w.heap.size,0,none⟩ hB1 (v:=.slice ta ts.length tc) (by go_cell);have q1:=qb ⟨w.heap.size,1,none⟩ hB1 (v:=.slice ga gs.length gc) (by go_cell);have q2:=qb ⟨w.heap.size,2,none⟩ hB1 (v:=.slice oa os.length oc) (by go_cell);have q3:=qb ⟨w.heap.size,3,none⟩ hB1 (v:=.slice ha hs.length hc) (by go_cell);have q4:=qb ⟨w.heap.size,4,none⟩ hB1 (v:=.slice ca cs.length cc) (by go_cell);have hmk:=Jf w1;have hM:=jH.new (enc:=qL) w1;have hBm:=(Below.refl w1.heap.size w1).alloc (Nat.le_refl _) (Obj.map #[] 0);obtain ⟨W2,hW2⟩:∃W2,w1.alloc (Obj.map #[] 0)=W2:=⟨_,rfl⟩;rw [hW2] at hmk hM hBm;have hB2:=bcl hB1 hBm;have p0:=qb ⟨w.heap.size+1,0,none⟩ hB2 (v:=.slice none 0 0) (by go_cell);have f0:=qd ⟨w.heap.size+1,0,none⟩ hB2 (v:=.slice none 0 0) (by go_cell) (by go_cell);have p1:=qb ⟨w.heap.size+1,1,none⟩ hB2 (v:=.slice none 0 0) (by go_cell);have f1:=qd ⟨w.heap.size+1,1,none⟩ hB2 (v:=.slice none 0 0) (by go_cell) (by go_cell);have p2:=qb ⟨w.heap.size+1,2,none⟩ hB2 (v:=.slice none 0 0) (by go_cell);have f2:=qd ⟨w.heap.size+1,2,none⟩ hB2 (v:=.slice none 0 0) (by go_cell) (by go_cell);have p3:=qb ⟨w.heap.size+1,3,none⟩ hB2 (v:=.slice none 0 0) (by go_cell);have f3:=qd ⟨w.heap.size+1,3,none⟩ hB2 (v:=.slice none 0 0) (by go_cell) (by go_cell);have p4:=qb ⟨w.heap.size+1,4,none⟩ hB2 (v:=.slice none 0 0) (by go_cell);have f4:=qd ⟨w.heap.size+1,4,none⟩ hB2 (v:=.slice none 0 0) (by go_cell) (by go_cell);have p5:=qb ⟨w.heap.size+1,5,none⟩ hB2 (v:=.map none) (by go_cell);have f5:=qd ⟨w.heap.size+1,5,none⟩ hB2 (v:=.map none) (by go_cell) (by go_cell);have hB3:=Below.call (B:=w.heap.size) (w:=w) (by go_grown) hB2 (Nat.le_refl _);have hsz:=hB1.size;simp at hsz;have HM:=Lib.hid hM;clear hM hW2 hB1 hBm hB2)
 refine qes results66 QB jD rfl rfl (u0:=.slice none 0 0) (u1:=.slice none 0 0) (u2:=.slice none 0 0) (u3:=.slice none 0 0) (u4:=.slice none 0 0) (u5:=.map none) ?_ ?_ ?_ ?_ ?_ ?_ ⟨_,rfl,?_,?_,?_⟩
 ·exact p0
 ·exact p1
 ·exact p2
 ·exact p3
 ·exact p4
 ·exact p5
 ·omega
 ·exact HM.out.block (qeA (by omega))
 ·exact LoadR.Below.set6 hB3 (by simp)
end Go.Proofs.Tryz
namespace Go.Proofs.Tryz
open Go Go.Load Go.RowKit
set_option maxHeartbeats 1000000 in
theorem XX (s:Int) (l:List Int) (a:Option Addr) (c:Nat) (hlen:l.length≤1000∧l.length≤c) (w:World) (hQ:qh w 1 encI a l) :
 Calls qj 121 #[.slice a l.length c,.int .i64 s] w fun e w'=>(∃n:Int,e=.returned (.int .i64 n)∧((0≤n)↔(l.any fun x=>s == x)=true)∧n≤1000)∧w=w':=by
 go_enter (sf 121 f121),ntmps121
 go_wp2
 go_loopw [8] (fun i wr=>∃k:Nat,i=.int .i64 k∧k≤l.length∧wr=w∧Hid ((l.take k).any (fun x=>s == x)=false)) (fun i _=>l.length - (intOf i).toNat)
 case atStart=>exact ⟨0,rfl,Nat.zero_le _,rfl,Lib.hid (by simp)⟩
 case round =>
  obtain ⟨k,rfl,hk,rfl,HN⟩:=hrel
  by_cases hlt:k < l.length
  ·obtain ⟨b,o,rfl,hP⟩:=hQ (by omega)
   obtain ⟨x,hx⟩:∃x,l[k]? = some x:=⟨l[k],by simp [hlt]⟩
   have hkc:(k:Int)≤(c:Int):=by omega
   have c0:=hP k x hx 0 _ rfl
   simp only [Nat.mul_one,Nat.add_zero] at c0
   have HX:=Lib.hid hx
   clear hP hx
   obtain ⟨r,hr⟩:∃r,(s == x)=r:=⟨_,rfl⟩
   have HR:=Lib.hid hr
   cases r with
   | true =>
     go_wp2
     go_ret
     exact ⟨⟨k,rfl,⟨fun _=>YI _ HX.out HR.out,fun _=>Int.natCast_nonneg k⟩,by omega⟩,rfl⟩
   | false =>
     go_wp2
     go_roundw
     case rel=>exact ⟨k+1,rfl,by omega,(by first | rfl | trivial),Lib.hid (by rw [any_take_succ _ HX.out HN.out];exact HR.out)⟩
     case measure=>simp [intOf];omega
  ·obtain rfl:k=l.length:=by omega
   have hany:=HN.out
   rw [List.take_length] at hany
   have HA:=Lib.hid hany
   clear hany
   go_wp2
   go_ret
   refine ⟨⟨-1,rfl,⟨fun h=>absurd h (by decide),fun h=>?_⟩,by omega⟩,rfl⟩
   rw [HA.out] at h;cases h
theorem ZR (s:Int) (l:List Int) (a:Option Addr) (c:Nat) (hlen:l.length≤1000∧l.length≤c) (w:World) (hQ:qh w 1 encI a l) :
 Calls qj 93 #[.slice a l.length c,.int .i64 s] w fun e w'=>e=.returned (.bool (decide (s∈l)))∧w=w':=by
 have hI:=XX s l a c hlen w hQ
 clear hQ
 have he:decide (s∈l)=(l.any fun x=>s == x):=by rw [Bool.eq_iff_iff];simp
 rw [he]
 obtain ⟨r,hr⟩:∃r,(l.any fun x=>s == x)=r:=⟨_,rfl⟩
 simp only [hr] at hI ⊢
 clear he hr
 go_enter (sf 93 f93),ntmps93
 go_wp2_with (go_at_call 121;(with_reducible refine hI.mono ?_);rintro e w1 ⟨⟨n,rfl,hn,hn2⟩,rfl⟩)
 go_ret
 refine ⟨?_,rfl⟩
 cases r <;> simp at hn <;> simp <;> omega
def PastM.get (p:PastM):Nat→Int
 | 0=>p.a
 | 1=>p.b
 | 2=>p.c
 | _=>p.d
def hitC (t:Int) (g:Int) (c:CalM) (x:WayM):Bool:=decide (c.co≤t) && (decide (t < c.cl) && decide (g∈x.l))
def Yu (t g:Int):List CalM→List WayM→Int
 | c :: cs,x :: xs=>(if hitC t g c x=true then 1 else 0)+Yu t g cs xs
 | _,_=>0
def hitH (t g:Int) (h:HldM):Bool:=decide (h.g=g) && (decide (h.b≤t) && decide (t < h.e))
def Zv (t g:Int):List HldM→Int
 | h :: hs=>(if hitH t g h=true then h.m else 0)+Zv t g hs
 | []=>0
def ZZ (D:DayM) (p:PastM) (took:List WayM) (g:Nat) (t:Int):Int:=max 0 (p.get g - Yu t g D.cs took - Zv t g D.hs)
theorem qcw (t g:Int) {cs:List CalM} {xs:List WayM} {k:Nat} {c:CalM} {x:WayM} (h1:cs[k]? = some c) (h2:xs[k]? = some x):Yu t g (cs.drop k) (xs.drop k)=(if hitC t g c x=true then 1 else 0)+Yu t g (cs.drop (k+1)) (xs.drop (k+1)):=by
 obtain ⟨hk,rfl⟩:=List.getElem?_eq_some_iff.1 h1
 obtain ⟨hl,rfl⟩:=List.getElem?_eq_some_iff.1 h2
 rw [List.drop_eq_getElem_cons hk,List.drop_eq_getElem_cons hl]
 rfl
theorem qeT (t g:Int) (cs:List CalM):Yu t g cs []=0:=by cases cs <;> rfl
theorem qcx (t g:Int) {hs:List HldM} {k:Nat} {h:HldM} (h1:hs[k]? = some h):Zv t g (hs.drop k)=(if hitH t g h=true then h.m else 0)+Zv t g (hs.drop (k+1)):=by
 obtain ⟨hk,rfl⟩:=List.getElem?_eq_some_iff.1 h1
 rw [List.drop_eq_getElem_cons hk]
 rfl
end Go.Proofs.Tryz
