/-
  Lemmas about the program and the machine (Q13 to Q15), upon which the last text of this claim rests; no condition.
-/
import Derived.Deep.AppendLies
import Derived.OwnWalk
import Derived.Test.YtjkenojgabamiaaGreatDoorD04
set_option linter.unusedSimpArgs false
set_option linter.unusedVariables false
namespace Go.Proofs.Tryz
open Go Go.Load Go.RowKit
structure FreeOK (D:DayM) (p:PastM) (took:List WayM) (tc:Nat):Prop where
 len:took.length≤D.cs.length
 few:D.cs.length≤20
 cap:took.length≤tc
 ls:∀x∈took,x.l.length≤20∧x.l.length≤x.c
 hs:∀h∈D.hs,0≤h.m∧h.m≤6
 ps:∀g,0≤p.get g∧p.get g≤100
set_option maxHeartbeats 4000000 in
set_option maxRecDepth 100000 in
theorem qaU (D:DayM) (m:Option Nat) (p:PastM) (took:List WayM) (ta:Option Addr) (tc:Nat) (g:Nat) (hg:g < 4) (t:Int) (w:World) (h:DayAt w D) (hs:DaySm D) (hok:FreeOK D p took tc) (hta:qh w 1 xY ta took) (htl:∀x∈took,qh w 1 encI x.a x.l) :
 Calls qj 51 #[dm D m,.agg #[.int .i64 p.a,.int .i64 p.b,.int .i64 p.c,.int .i64 p.d],.slice ta took.length tc,.int .i64 g,.int .i64 t] w fun e w'=>e=.returned (.int .i64 (ZZ D p took g t))∧Below w.heap.size w w':=by
 have hcs:=h.cs
 have hhs:=h.hs
 have scs:=hs.cs
 have shs:=hs.hs
 obtain ⟨ol,of,oc,ols,ohs,ops⟩:=hok
 have hco:=fun (x:WayM) (hx:x∈took) W (hB:Below w.heap.size w W)=>ZR g x.l x.a x.c ⟨by have:=(ols x hx).1;omega,(ols x hx).2⟩ W ((htl x hx).keep hB)
 obtain ⟨R,hR⟩:∃R,ZZ D p took g t=R:=⟨_,rfl⟩
 rw [hR]
 unfold ZZ at hR
 have hp:=ops g
 obtain ⟨P,hP⟩:∃P,p.get g=P:=⟨_,rfl⟩
 rw [hP] at hR hp
 have hcell:∀W:World,W.cell? ⟨w.heap.size+1,0,none⟩=some (.int .i64 p.a)→W.cell? ⟨w.heap.size+1,1,none⟩=some (.int .i64 p.b)→W.cell? ⟨w.heap.size+1,2,none⟩=some (.int .i64 p.c)→W.cell? ⟨w.heap.size+1,3,none⟩=some (.int .i64 p.d)→W.cell? ⟨w.heap.size+1,g,none⟩=some (.int .i64 P):=by
  intro W h0 h1 h2 h3
  subst hP
  match g,hg with
  | 0,_=>exact h0
  | 1,_=>exact h1
  | 2,_=>exact h2
  | 3,_=>exact h3
 unfold dm
 have HCO:=Lib.hid hco
 have HCS:=Lib.hid hcs
 have HHS:=Lib.hid hhs
 have HTA:=Lib.hid hta
 have HMS:=Lib.hid ohs
 clear h hs ols htl hco hcs hhs hta ohs ops hP
 obtain ⟨pa,pb,pc,pd⟩:=p
 obtain ⟨ts,ta2,tc2,gs,ga,gc,os,oa,oc2,hs,ha,hc,cs,ca,cc⟩:=D
 simp only at *
 generalize Value.slice ta2 ts.length tc2=x1 at *
 generalize Value.slice ga gs.length gc=x2 at *
 generalize Value.slice oa os.length oc2=x3 at *
 have HR:=Lib.hid hR
 clear hR
 have hg0:(0:Int)≤(g:Int):=Int.natCast_nonneg g
 have hg1:(g:Int) < 4:=by omega
 go_enter (sf 51 f51),ntmps51
 obtain ⟨W,hW⟩:∃W,(w.alloc (Obj.cells #[x1,x2,x3,.slice ha hs.length hc,.slice ca cs.length cc,.map m] 74)).alloc (Obj.cells #[.int .i64 pa,.int .i64 pb,.int .i64 pc,.int .i64 pd] 82)=W:=⟨_,rfl⟩
 have h6:B6 W w.heap.size x1 x2 x3 (.slice ha hs.length hc) (.slice ca cs.length cc) (.map m):=by subst hW;exact ⟨by go_cell,by go_cell,by go_cell,by go_cell,by go_cell,by go_cell⟩
 have hpg:W.cell? ⟨w.heap.size+1,g,none⟩=some (.int .i64 P):=by subst hW;exact hcell _ (by go_cell) (by go_cell) (by go_cell) (by go_cell)
 have hBW:Below w.heap.size w W:=by subst hW;go_grown
 clear hcell
 go_wp2
 try rw [hW]
 clear hW hpg
 go_loopw [22,11] (fun i q wr=>∃(k:Nat) (A:Int),i=.int .i64 k∧q=.int .i64 A∧k≤took.length∧-(k:Int)≤A∧A≤100∧Below W.heap.size W wr∧Hid (A - Yu t g (cs.drop k) (took.drop k)=P - Yu t g cs took)) (fun i _ _=>took.length - (intOf i).toNat)
 case atStart=>exact ⟨0,P,rfl,rfl,by omega,by omega,by omega,Below.refl _ _,Lib.hid (by simp)⟩
 case round =>
  obtain ⟨k,A,rfl,rfl,hk,hA0,hA1,hBr,HE⟩:=hrel
  obtain ⟨k0,k1,k2,k3,k4,k5⟩:=h6.keep hBr
  have hBw:=bcl hBW hBr
  have hz:=lt_of_cell k0
  have hzW:=hBr.size
  simp only at hz
  by_cases hlt:k < took.length
  ·obtain ⟨b,o,rfl,hP⟩:=HCS.out (by show 1≤cs.length;omega)
   obtain ⟨c,hx⟩:∃x,cs[k]? = some x:=⟨cs[k]'(by omega),by simp⟩
   obtain ⟨x,hy⟩:∃x,took[k]? = some x:=⟨took[k],by simp [hlt]⟩
   obtain ⟨tb,t0,rfl,hQ⟩:=HTA.out (by omega)
   have hkc:(k:Int)≤(cc:Int):=by omega
   have hkl:(k:Int) < (cs.length:Int):=by omega
   have hkt:(k:Int)≤(tc:Int):=by omega
   have c0:=qb _ hBw (hP k c hx 0 _ rfl)
   have c1:=qb _ hBw (hP k c hx 1 _ rfl)
   have c2:=qb _ hBw (hP k c hx 2 _ rfl)
   have c3:=qb _ hBw (hP k c hx 3 _ rfl)
   have c4:=qb _ hBw (hP k c hx 4 _ rfl)
   have d0:=qb _ hBw (hQ k x hy 0 _ rfl)
   simp only [Nat.mul_one,Nat.add_zero] at c0 d0
   have hco:=HCO.out x (List.mem_of_getElem? hy)
   have hA:=HE.out
   rw [qcw t g hx hy] at hA
   unfold hitC at hA
   clear hP hQ hx hy
   obtain ⟨fr,tw,co,cl,se⟩:=c
   obtain ⟨xl,xa,xc⟩:=x
   simp only at *
   generalize decide ((g:Int)∈xl)=I at *
   have hwr:wrap64 (A - 1)=A - 1:=by unfold wrap64;omega
   by_cases e1:co≤t
   ·by_cases e2:t < cl
    ·cases I with
     | true =>
       have HA:=Lib.hid hA
       clear hA
       go_wp2_with (go_at_call 93;(with_reducible refine (hco _ (by go_grown)).mono ?_);rintro e w1 ⟨rfl,rfl⟩)
       go_roundw
       case rel=>exact ⟨k+1,A - 1,rfl,rfl,by omega,by omega,by omega,by go_grown,Lib.hid (by have e:=HA.out;simp [e1,e2] at e;omega)⟩
       case measure=>simp [intOf];omega
     | false =>
       have HA:=Lib.hid hA
       clear hA
       go_wp2_with (go_at_call 93;(with_reducible refine (hco _ (by go_grown)).mono ?_);rintro e w1 ⟨rfl,rfl⟩)
       go_roundw
       case rel=>exact ⟨k+1,A,rfl,rfl,by omega,by omega,by omega,by go_grown,Lib.hid (by have e:=HA.out;simp at e;omega)⟩
       case measure=>simp [intOf];omega
    ·have HA:=Lib.hid hA
     clear hA
     go_wp2
     go_roundw
     case rel=>exact ⟨k+1,A,rfl,rfl,by omega,by omega,by omega,by go_grown,Lib.hid (by have e:=HA.out;simp [e2] at e;omega)⟩
     case measure=>simp [intOf];omega
   ·have HA:=Lib.hid hA
    clear hA
    go_wp2
    go_roundw
    case rel=>exact ⟨k+1,A,rfl,rfl,by omega,by omega,by omega,by go_grown,Lib.hid (by have e:=HA.out;simp [e1] at e;omega)⟩
    case measure=>simp [intOf];omega
  ·obtain rfl:k=took.length:=by omega
   have hA:=HE.out
   rw [List.drop_eq_nil_of_le (Nat.le_refl took.length),qeT] at hA
   have HA:=Lib.hid hA
   clear hA
   go_wp2
   clear HCO HTA HE
   have hU:=HA.out
   rw [Int.sub_zero] at hU
   have hA2:-20≤A:=by omega
   clear HA hA0
   have HU:=Lib.hid hU
   clear hU
   obtain ⟨V,hV⟩:∃V,V=wr:=⟨_,rfl⟩
   subst hV
   go_loopw [55,11] (fun i q wr=>∃(k:Nat) (B:Int),i=.int .i64 k∧q=.int .i64 B∧k≤hs.length∧-20 - 6 * (k:Int)≤B∧B≤100∧Below W.heap.size W wr∧Hid (B - Zv t g (hs.drop k)=A - Zv t g hs)) (fun i _ _=>hs.length - (intOf i).toNat)
   case atStart=>exact ⟨0,A,rfl,rfl,by omega,by omega,by omega,hBr,Lib.hid (by simp)⟩
   case round =>
    clear k0 k1 k2 k3 k4 k5 hBw hz hzW
    obtain ⟨k,B,rfl,rfl,hk,hB0,hB1,hBr,HE⟩:=hrel
    obtain ⟨k0,k1,k2,k3,k4,k5⟩:=h6.keep hBr
    have hBw:=bcl hBW hBr
    have hz:=lt_of_cell k0
    have hzW:=hBr.size
    simp only at hz
    by_cases hlt:k < hs.length
    ·obtain ⟨b,o,rfl,hP⟩:=HHS.out (by show 1≤hs.length;omega)
     obtain ⟨h,hx⟩:∃x,hs[k]? = some x:=⟨hs[k],by simp [hlt]⟩
     have hkc:(k:Int)≤(hc:Int):=by omega
     have c0:=qb _ hBw (hP k h hx 0 _ rfl)
     have c1:=qb _ hBw (hP k h hx 1 _ rfl)
     have c2:=qb _ hBw (hP k h hx 2 _ rfl)
     have c3:=qb _ hBw (hP k h hx 3 _ rfl)
     simp only [Nat.add_zero] at c0
     obtain ⟨hm0,hm6⟩:=HMS.out h (List.mem_of_getElem? hx)
     have hA:=HE.out
     rw [qcx t g hx] at hA
     unfold hitH at hA
     clear hP hx
     obtain ⟨hg3,hm,hb,he⟩:=h
     simp only at *
     have hwr:wrap64 (B - hm)=B - hm:=by unfold wrap64;omega
     by_cases e1:hg3=(g:Int)
     ·subst e1
      by_cases e2:hb≤t
      ·by_cases e3:t < he
       ·have HA:=Lib.hid hA
        clear hA
        go_wp2
        go_roundw
        case rel=>exact ⟨k+1,B - hm,rfl,rfl,by omega,by omega,by omega,by go_grown,Lib.hid (by have e:=HA.out;simp [e2,e3] at e;omega)⟩
        case measure=>simp [intOf];omega
       ·have HA:=Lib.hid hA
        clear hA
        go_wp2
        go_roundw
        case rel=>exact ⟨k+1,B,rfl,rfl,by omega,by omega,by omega,by go_grown,Lib.hid (by have e:=HA.out;simp [e3] at e;omega)⟩
        case measure=>simp [intOf];omega
      ·have HA:=Lib.hid hA
       clear hA
       go_wp2
       go_roundw
       case rel=>exact ⟨k+1,B,rfl,rfl,by omega,by omega,by omega,by go_grown,Lib.hid (by have e:=HA.out;simp [e2] at e;omega)⟩
       case measure=>simp [intOf];omega
     ·have hne:(hg3 == (g:Int))=false:=by simpa using e1
      have HA:=Lib.hid hA
      clear hA
      go_wp2
      go_roundw
      case rel=>exact ⟨k+1,B,rfl,rfl,by omega,by omega,by omega,by go_grown,Lib.hid (by have e:=HA.out;simp [e1] at e;omega)⟩
      case measure=>simp [intOf];omega
    ·obtain rfl:k=hs.length:=by omega
     have hA:=HE.out
     rw [List.drop_eq_nil_of_le (Nat.le_refl hs.length)] at hA
     have hA2:B=A - Zv t g hs:=by have e:Zv t g []=0:=rfl;omega
     have hF:R=max 0 B:=by rw [← HR.out,HU.out.symm,hA2]
     have HF:=Lib.hid hF
     clear hA hA2 hF
     go_wp2
     all_goals
      go_ret
      have e:=HF.out
      exact ⟨congrArg (fun n=>Ending.returned (Value.int .i64 n)) (by omega),hBw⟩
def Yz:WayM:=⟨[],none,0⟩
def SetM.turn (s:SetM):Nat→Int
 | 0=>s.t0
 | 1=>s.t1
 | _=>s.t2
def qeQ (D:DayM) (s:SetM) (c:CalM):Bool:=decide (0≤s.order) && decide (s.order=zu D c)
def wayK (D:DayM) (s:SetM) (c:CalM) (k:Nat):WayM:=if qeQ D s c=true then (qJ D c).ws.getD (s.turn k).toNat Yz else (qJ D c).ws.getD k Yz
def JY (D:DayM) (p:PastM) (took:List WayM) (t:Int) (x:WayM):Bool:=x.l.any fun g=>decide (ZZ D p took g.toNat t=0)
def je (D:DayM) (s:SetM) (took:List WayM) (c:CalM):Nat→Nat→Int×WayM
 | 0,_=>(-1,Yz)
 | n+1,k=>if JY D s.p took c.co (wayK D s c k)=true then je D s took c n (k+1) else (k,wayK D s c k)
def jQ (a:Int) (i:Nat):Bool:=decide (a / 2 ^ i % 2=1)
def Za (D:DayM) (s:SetM) (i:Nat) (took:List WayM) (c:CalM):Int×WayM:=if jQ s.away i=true then (-2,Yz) else je D s took c (qJ D c).ws.length 0
def zW (D:DayM) (s:SetM):Nat→List WayM→List CalM→List Int
 | _,_,[]=>[]
 | i,took,c :: cs=>(Za D s i took c).1 :: zW D s (i+1) (took ++ [(Za D s i took c).2]) cs
def qG (D:DayM) (s:SetM):List Int:=zW D s 0 [] D.cs
theorem Qr (D:DayM) (s:SetM):∀(i:Nat) (took:List WayM) (cs:List CalM),(zW D s i took cs).length=cs.length
 | _,_,[]=>rfl
 | i,took,c :: cs=>by rw [zW,List.length_cons,Qr D s _ _ cs,List.length_cons]
theorem qX (D:DayM) (s:SetM):(qG D s).length=D.cs.length:=Qr D s _ _ _
structure DayOK (D:DayM):Prop where
 gs:D.gs.length≤4
 os:D.os.length≤6
 cs:D.cs.length≤8
 ws:∀o∈D.os,o.ws.length≤3
 ks:∀o∈D.os,∀x∈o.ws,∀k∈x.l,0≤k∧k < D.gs.length
 hs:∀h∈D.hs,0≤h.m∧h.m≤6
set_option maxHeartbeats 2000000 in
set_option maxRecDepth 100000 in
theorem qeo (D:DayM) (m:Option Nat) (p:PastM) (took:List WayM) (ta:Option Addr) (tc:Nat) (g:Nat) (hg:g < 4) (t:Int) (b1 b2 b3 b4:Nat) (w:World) (h:DayAt w D) (hs:DaySm D) (hok:FreeOK D p took tc) (hta:qh w 1 xY ta took) (htl:∀x∈took,qh w 1 encI x.a x.l)
 (h6:B6 w b1 (.slice D.ta D.ts.length D.tc) (.slice D.ga D.gs.length D.gc) (.slice D.oa D.os.length D.oc) (.slice D.ha D.hs.length D.hc) (.slice D.ca D.cs.length D.cc) (.map m))
 (p0:w.cell? ⟨b2,0,none⟩=some (.int .i64 p.a)) (p1:w.cell? ⟨b2,1,none⟩=some (.int .i64 p.b)) (p2:w.cell? ⟨b2,2,none⟩=some (.int .i64 p.c)) (p3:w.cell? ⟨b2,3,none⟩=some (.int .i64 p.d))
 (t0:w.cell? ⟨b3,0,none⟩=some (.slice ta took.length tc)) (c2:w.cell? ⟨b4,2,none⟩=some (.int .i64 t)) :
 Calls qj 90 #[.int .i64 g,.pointer (some ⟨b1,0,none⟩),.pointer (some ⟨b2,0,none⟩),.pointer (some ⟨b3,0,none⟩),.pointer (some ⟨b4,0,none⟩)] w fun e w'=>e=.returned (.bool (decide (ZZ D p took g t=0)))∧Below w.heap.size w w':=by
 have hfr:=qaU D m p took ta tc g hg t w h hs hok hta htl
 generalize ZZ D p took g t=R at *
 clear h hs hok hta htl
 unfold dm at hfr
 obtain ⟨k0,k1,k2,k3,k4,k5⟩:=h6
 obtain ⟨pa,pb,pc,pd⟩:=p
 simp only at *
 generalize Value.slice D.ta D.ts.length D.tc=x0 at *
 generalize Value.slice D.ga D.gs.length D.gc=x1 at *
 generalize Value.slice D.oa D.os.length D.oc=x2 at *
 generalize Value.slice D.ha D.hs.length D.hc=x3 at *
 generalize Value.slice D.ca D.cs.length D.cc=x4 at *
 by_cases hR:R=0
 ·subst hR
  go_enter (sf 90 f90),ntmps90
  go_wp2_with (go_at_call 51;(with_reducible refine hfr.mono ?_);rintro e w1 ⟨rfl,hB1⟩)
  go_ret
  exact ⟨by simp,hB1⟩
 ·have hne:(R == 0)=false:=by simpa using hR
  go_enter (sf 90 f90),ntmps90
  go_wp2_with (go_at_call 51;(with_reducible refine hfr.mono ?_);rintro e w1 ⟨rfl,hB1⟩)
  go_ret
  exact ⟨by simp [hR],hB1⟩
theorem full_any (D:DayM) (m:Option Nat) (p:PastM) (took:List WayM) (ta:Option Addr) (tc:Nat) (x:WayM) (t:Int) (b1 b2 b3 b4:Nat) (w:World) (h:DayAt w D) (hs:DaySm D) (hok:FreeOK D p took tc) (hta:qh w 1 xY ta took) (htl:∀x∈took,qh w 1 encI x.a x.l)
 (hx:x.l.length≤20) (hxr:qh w 1 encI x.a x.l) (hx4:∀k∈x.l,0≤k∧k < 4)
 (h6:B6 w b1 (.slice D.ta D.ts.length D.tc) (.slice D.ga D.gs.length D.gc) (.slice D.oa D.os.length D.oc) (.slice D.ha D.hs.length D.hc) (.slice D.ca D.cs.length D.cc) (.map m))
 (p0:w.cell? ⟨b2,0,none⟩=some (.int .i64 p.a)) (p1:w.cell? ⟨b2,1,none⟩=some (.int .i64 p.b)) (p2:w.cell? ⟨b2,2,none⟩=some (.int .i64 p.c)) (p3:w.cell? ⟨b2,3,none⟩=some (.int .i64 p.d))
 (t0:w.cell? ⟨b3,0,none⟩=some (.slice ta took.length tc)) (c2:w.cell? ⟨b4,2,none⟩=some (.int .i64 t)) :
 Calls qj 89 #[.slice x.a x.l.length x.c,.func (.func 90) #[] #[.pointer (some ⟨b1,0,none⟩),.pointer (some ⟨b2,0,none⟩),.pointer (some ⟨b3,0,none⟩),.pointer (some ⟨b4,0,none⟩)]] w fun e w'=>e=.returned (.bool (JY D p took t x))∧Below w.heap.size w w' :=
 JQ 90 #[.pointer (some ⟨b1,0,none⟩),.pointer (some ⟨b2,0,none⟩),.pointer (some ⟨b3,0,none⟩),.pointer (some ⟨b4,0,none⟩)] (fun _ _=>by kernel_rfl) (fun g=>decide (ZZ D p took g.toNat t=0)) x.l x.a x.c (by omega) (fun W=>Below w.heap.size w W) (fun W hW=>hxr.keep hW) w (Below.refl _ _)
  (fun i g hi W (hW:Below w.heap.size w W)=>by
    obtain ⟨g0,g4⟩:=hx4 g (List.mem_of_getElem? hi)
    obtain ⟨n,rfl⟩:=Int.eq_ofNat_of_zero_le g0
    exact (qeo D m p took ta tc n (by omega) t b1 b2 b3 b4 W (h.keep hW) hs hok (hta.keep hW) (fun y hy=>(htl y hy).keep hW) (h6.keep hW) (qb _ hW p0) (qb _ hW p1) (qb _ hW p2) (qb _ hW p3) (qb _ hW t0) (qb _ hW c2)).mono fun e w' ⟨he,hB1⟩=>⟨he,bcl hW hB1⟩)
end Go.Proofs.Tryz
namespace Go.Proofs.Tryz
open Go Go.Load Go.RowKit Go.Maps
theorem Yx {w w1:World} (h:Below w.heap.size w w1):w.grownBy w1 none:=⟨h.os,h.tape,h.output,h.size,fun k hk _=>h.block k hk⟩
theorem yn {w w1:World} {base e size n:Nat} {v:Value} {xs:List Value} (h:w.ownsRow base e size v n xs) (hB:Below w.heap.size w w1):w1.ownsRow base e size v n xs:=h.kept (Yx hB) (by cases v.ownBlock <;> simp)
theorem Xq:(Tryz.prog.info? 3).map (fun i=>(i.zero,i.size,i.bytes))=some (some (.int .i64 0),1,8):=by kernel_rfl
theorem Ye:(Tryz.prog.info? 31).map (fun i=>(i.zero,i.size,i.bytes))=some (some (.slice none 0 0),1,24):=by kernel_rfl
theorem jv {X:World} {ad:Addr} {v:Value} (h:X.cell? ad=some v):∀j u,[v][j]? = some u→X.cell? (ad.add j)=some u:=by
 intro j u hu
 cases j with
 | zero=>simp at hu;subst hu;exact h
 | succ j=>simp at hu
theorem Yb (w:World) (p:Addr) (v:Value):w.grownBy (w.setCell p v) (some p.block):=⟨rfl,rfl,rfl,by simp,fun k _ hne=>Below.heap_setCell _ _ _ _ (fun e=>hne (congrArg some e))⟩
def wvW (x:WayM):Value:=.slice x.a x.l.length x.c
theorem Qq {w:World} {base:Nat} {e:TypeId} {v:Value} {n:Nat} {xs:List Value} (h:w.ownsRow base e 1 v n xs):∃a c,v=.slice a n c∧n≤c∧∀(i:Nat) (u:Value),xs[i]? = some u→∃g,a=some ⟨g,0,none⟩∧w.cell? ⟨g,i,none⟩=some u:=by
 obtain ⟨hl,⟨rfl,rfl⟩ | ⟨g,cap,cur,rfl,hb,hg,h1,h2,h3,h4⟩⟩:=h
 ·refine ⟨none,0,rfl,Nat.le_refl _,fun i u hi=>?_⟩
  have:xs=[]:=List.length_eq_zero_iff.1 (by simpa using hl)
  subst this
  cases hi
 ·refine ⟨_,cap,rfl,h1,fun i u hi=>⟨g,rfl,?_⟩⟩
  rw [← h4,List.getElem?_take] at hi
  split at hi
  ·simp only [World.cell?,hg]
   simpa using hi
  ·cases hi
structure PI (tb:Nat) (wr:World) (out:Value) (outs:List Int) (tv:Value) (took:List WayM):Prop where
 c:wr.cell? ⟨tb,0,none⟩=some tv
 f:wr.frozen? ⟨tb,0,none⟩=false
 o1:wr.ownsRow (tb+1) 3 1 out outs.length (outs.map (.int .i64))
 o2:wr.ownsRow (tb+1) 31 1 tv took.length (took.map wvW)
 ne:∀b,out.ownBlock=some b→tv.ownBlock≠some b
section
variable {tb:Nat} {wr X1 Y1 X2 Y2:World} {out tv:Value} {outs:List Int} {took:List WayM}
theorem PI.keep (h:PI tb wr out outs tv took) (hB:Below wr.heap.size wr X1):PI tb X1 out outs tv took :=
 ⟨qb _ hB h.c,qd _ hB h.c h.f,yn h.o1 hB,yn h.o2 hB,h.ne⟩
theorem PI.hold (h:PI tb wr out outs tv took) (e1:Below wr.heap.size wr X1) (q1:X1.grownBy Y1 out.ownBlock):Y1.cell? ⟨tb,0,none⟩=some tv∧Y1.frozen? ⟨tb,0,none⟩=false:=by
 have hne:some tb≠out.ownBlock:=fun e=>by have:=(h.o1.lt _ e.symm).1;omega
 have c1:=qb _ e1 h.c
 exact ⟨q1.cell c1 hne,by rw [q1.frozen_far ⟨tb,0,none⟩ (lt_of_cell c1) hne];exact qd _ e1 h.c h.f⟩
theorem PI.own2 (h:PI tb wr out outs tv took) (e1:Below wr.heap.size wr X1) (q1:X1.grownBy Y1 out.ownBlock) (e2:Below Y1.heap.size Y1 X2):X2.ownsRow (tb+1) 31 1 tv took.length (took.map wvW):=by
 refine yn ((yn h.o2 e1).kept q1 ?_) e2
 cases ht:tv.ownBlock with
 | none=>exact .inl rfl
 | some b=>right;intro e;exact h.ne b e.symm ht
theorem PI.rows (h:PI tb wr out outs tv took):∃ta tc,tv=.slice ta took.length tc∧took.length≤tc∧qh wr 1 xY ta took:=by
 obtain ⟨a,c,e,l,r⟩:=Qq h.o2
 refine ⟨a,c,e,l,fun hn=>?_⟩
 obtain ⟨x,hx⟩:∃x,took[0]? = some x:=⟨took[0],by simp⟩
 obtain ⟨g,rfl,_⟩:=r 0 (wvW x) (by simp [hx])
 refine ⟨g,0,rfl,fun i y hy j v hv=>?_⟩
 obtain ⟨g',e',h'⟩:=r i (wvW y) (by simp [hy])
 cases e'
 cases j with
 | zero=>simp [xY] at hv;subst hv;simpa [wvW] using h'
 | succ j=>simp [xY] at hv
theorem PI.outrow (h:PI tb wr out outs tv took):∃a c,out=.slice a outs.length c∧outs.length≤c∧qh wr 1 encI a outs:=by
 obtain ⟨a,c,e,l,r⟩:=Qq h.o1
 refine ⟨a,c,e,l,fun hn=>?_⟩
 obtain ⟨x,hx⟩:∃x,outs[0]? = some x:=⟨outs[0],by simp⟩
 obtain ⟨g,rfl,_⟩:=r 0 (.int .i64 x) (by simp [hx])
 refine ⟨g,0,rfl,fun i y hy j v hv=>?_⟩
 obtain ⟨g',e',h'⟩:=r i (.int .i64 y) (by simp [hy])
 cases e'
 cases j with
 | zero=>simp [encI] at hv;subst hv;simpa using h'
 | succ j=>simp [encI] at hv
theorem PI.hold2 (h:PI tb wr out outs tv took) (e1:Below wr.heap.size wr X1) (q1:X1.grownBy Y1 out.ownBlock) (e2:Below Y1.heap.size Y1 X2) (q2:X2.grownBy Y2 tv.ownBlock):Y2.cell? ⟨tb,0,none⟩=some tv∧Y2.frozen? ⟨tb,0,none⟩=false:=by
 have hc:=h.hold e1 q1
 have l2:=h.o2.lt
 have ht2:some tb≠tv.ownBlock:=fun e=>by have:=(l2 _ e.symm).1;omega
 have cx:=qb _ e2 hc.1
 have fx:=qd _ e2 hc.1 hc.2
 exact ⟨q2.cell cx ht2,by rw [q2.frozen_far ⟨tb,0,none⟩ (lt_of_cell cx) ht2];exact fx⟩
theorem PI.step {k:Int} {x:WayM} {g1 g2 c1 c2:Nat} (h:PI tb wr out outs tv took) (e1:Below wr.heap.size wr X1) (q1:X1.grownBy Y1 out.ownBlock)
 (n1:Y1.ownsRow (tb+1) 3 1 (.slice (some ⟨g1,0,none⟩) (outs.length+1) c1) (outs.length+1) (outs.map (.int .i64) ++ [.int .i64 k])) (a1:out.ownBlock=some g1∨g1=X1.heap.size)
 (e2:Below Y1.heap.size Y1 X2) (q2:X2.grownBy Y2 tv.ownBlock)
 (n2:Y2.ownsRow (tb+1) 31 1 (.slice (some ⟨g2,0,none⟩) (took.length+1) c2) (took.length+1) (took.map wvW ++ [wvW x])) (a2:tv.ownBlock=some g2∨g2=X2.heap.size) :
 PI tb (Y2.setCell ⟨tb,0,none⟩ (.slice (some ⟨g2,0,none⟩) (took.length+1) c2)) (.slice (some ⟨g1,0,none⟩) (outs.length+1) c1) (outs ++ [k]) (.slice (some ⟨g2,0,none⟩) (took.length+1) c2) (took ++ [x]) ∧
  Below tb wr (Y2.setCell ⟨tb,0,none⟩ (.slice (some ⟨g2,0,none⟩) (took.length+1) c2)):=by
 have hc:=h.hold e1 q1
 have l1:=h.o1.lt
 have l2:=h.o2.lt
 have m1:=n1.lt g1 rfl
 have m2:=n2.lt g2 rfl
 have s1:=e1.size
 have s2:=q1.size
 have s3:=e2.size
 have s4:=q2.size
 have ht2:some tb≠tv.ownBlock:=fun e=>by have:=(l2 _ e.symm).1;omega
 have cx:=qb _ e2 hc.1
 have fx:=qd _ e2 hc.1 hc.2
 have cy:=q2.cell cx ht2
 have fy:Y2.frozen? ⟨tb,0,none⟩=false:=by rw [q2.frozen_far ⟨tb,0,none⟩ (lt_of_cell cx) ht2];exact fx
 have hlt:tb < wr.heap.size:=lt_of_cell h.c
 have hg:g1≠g2:=by
  rcases a1 with a1 | a1 <;> rcases a2 with a2 | a2
  ·intro e;subst e;exact h.ne _ a1 a2
  ·have:=(l1 _ a1).2;omega
  ·have:=(l2 _ a2).2;omega
  ·omega
 have hg1t:tv.ownBlock≠some g1:=by
  intro e
  rcases a1 with a1 | a1
  ·exact h.ne _ a1 e
  ·have:=(l2 _ e).2;omega
 refine ⟨⟨qp (qz cy),by simpa using fy,?_,?_,?_⟩,?_⟩
 ·have o:=((yn n1 e2).kept q2 (.inr fun e=>hg1t e.symm)).kept (Yb Y2 ⟨tb,0,none⟩ (.slice (some ⟨g2,0,none⟩) (took.length+1) c2)) (.inr (by intro e;have e2:g1=tb:=Option.some.inj e;omega))
  simpa using o
 ·have o:=n2.kept (Yb Y2 ⟨tb,0,none⟩ (.slice (some ⟨g2,0,none⟩) (took.length+1) c2)) (.inr (by intro e;have e2:g2=tb:=Option.some.inj e;omega))
  simpa using o
 ·intro b hb e
  have e1:g1=b:=Option.some.inj hb
  have e2:g2=b:=Option.some.inj e
  omega
 ·have b1:Below tb wr X1:=e1.mono (by omega)
  have b2:Below tb wr Y1:=b1.grown q1 (by omega) (fun j hj=>by have:=(l1 j hj).1;omega)
  have b3:Below tb wr X2:=b2.trans (e2.mono (by omega))
  have b4:Below tb wr Y2:=b3.grown q2 (by omega) (fun j hj=>by have:=(l2 j hj).1;omega)
  exact b4.setCell (Nat.le_refl _) _
end
end Go.Proofs.Tryz
