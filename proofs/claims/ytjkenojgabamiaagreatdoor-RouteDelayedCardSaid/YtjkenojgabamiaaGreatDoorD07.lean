/-
  Lemmas about the program and the machine (Q17 to Q25), upon which the last text of this claim rests; no condition.
-/
import Derived.RangeFuncBox
import Derived.RangeFuncNested
import Derived.RangeFuncCalls
import Derived.RangeFuncLeaves
import Derived.OwnWalkIn
import Derived.TacticsInMore
import Derived.Maps.OwnIn
import Derived.Laws.EntriesVeiled
import Derived.Shelf.Sort.Plain
import Derived.Shelf.Slices.CompactI
import Derived.Sort.OwnSortedInts
import Derived.Test.YtjkenojgabamiaaGreatDoorD06
set_option linter.unusedSimpArgs false
set_option linter.unusedVariables false
namespace Go.Proofs.Tryz
open Go Go.Load Go.LoadR Go.RowKit
theorem agg_set (w:World):(isAgg 87).run qj w=.ok true w:=by kernel_rfl
theorem size_set (w:World):(Go.sizeOf 87).run qj w=.ok 9 w:=by kernel_rfl
def setOf (p:PastM):SetM:=⟨p,0,-1,0,0,0⟩
def pvP (p:PastM):Value:=.agg #[.int .i64 p.a,.int .i64 p.b,.int .i64 p.c,.int .i64 p.d]
set_option maxHeartbeats 2000000 in
set_option maxRecDepth 100000 in
theorem zG (p:PastM) (w:World):Calls qj 39 #[pvP p] w fun e w'=>e=.returned (qL (setOf p))∧Below w.heap.size w w':=by
 unfold pvP qL setOf
 obtain ⟨a,b,c,d⟩:=p
 simp only
 go_enter (sf 39 f39),ntmps39
 go_wp2
 refine bodyPost_ret (Qu results39 rfl (load_9 agg_set size_set (by go_cell) (by go_cell) (by go_cell) (by go_cell) (by go_cell) (by go_cell) (by go_cell) (by go_cell) (by go_cell))) rfl ⟨rfl,?_⟩
 exact ((Below.refl _ w).alloc (Nat.le_refl _) _).alloc (by simp) _
structure St (D:DayM) (M:Nat) (A:Nat→Prop) (w0 w:World):Prop where
 bel:Below w0.heap.size w0 w
 le:w0.heap.size≤M
 at0:DayAt w0 D
 sm:DaySm D
 ok:DayOK D
 kn:KN D M A w
section
variable {D:DayM} {M:Nat} {A:Nat→Prop} {w0 w w1:World}
theorem St.day (h:St D M A w0 w):DayAt w D:=h.at0.keep h.bel
theorem St.keep (h:St D M A w0 w) (hB:Below w.heap.size w w1):St D M A w0 w1:=⟨bcl h.bel hB,h.le,h.at0,h.sm,h.ok,h.kn.keep hB⟩
theorem St.grown (h:St D M A w0 w) (hg:w.grownBy w1 (some M)) (hk:KN D M A w1):St D M A w0 w1:=⟨below_grown h.bel (Nat.le_refl _) hg h.le,h.le,h.at0,h.sm,h.ok,hk⟩
theorem St.cell (h:St D M A w0 w) (hg:w.grownBy w1 (some M)) {p:Addr} {v:Value} (hc:w.cell? p=some v):w1.cell? p=some v:=by
 obtain ⟨f,h1,_⟩:=h.kn
 exact qI hg hc (map_cell h1 hc)
theorem St.rows (h:St D M A w0 w) (hg:w.grownBy w1 (some M)) {α:Type} {k:Nat} {enc:α→List Value} {a:Option Addr} {l:List α} (hr:qh w k enc a l):qh w1 k enc a l:=by
 obtain ⟨f,h1,_⟩:=h.kn
 exact jC h1 hr hg
theorem St.own {A':Nat→Prop} {r:Option Nat} (h:St D M A w0 w) (hg:w.grownBy w1 r) (hr:∀b,r=some b→A b∧b≠M∧w0.heap.size≤b) (hA:∀b,A' b→A b∨w.heap.size≤b):St D M A' w0 w1 :=
 ⟨h.bel.grown hg h.bel.size (fun b e=>(hr b e).2.2),h.le,h.at0,h.sm,h.ok,h.kn.own hg (fun b e=>⟨(hr b e).1,(hr b e).2.1⟩) hA⟩
theorem jY (h:St D M A w0 w) (s:SetM) (hord:s.order < 0) (hps:∀g,0≤s.p.get g∧s.p.get g≤100) (haw:0≤s.away∧s.away < 256) (hA:∀b,A b→b < w.heap.size) :
 Calls qj 38 #[dm D (some M),qL s] w fun e w'=>∃a c,e=.returned (.slice a (qG D s).length c)∧(qG D s).length≤c∧qh w' 1 encI a (qG D s)∧St D M A w0 w'∧w.grownBy w' (some M) :=
 (play_any D s hord M w0 w h.bel h.le h.at0 h.sm h.ok hps haw A hA h.kn).mono fun _ _ ⟨⟨a,c,he,hl,hr⟩,hk,hg⟩=>⟨a,c,he,hl,hr,h.grown hg hk,hg⟩
def QT (D:DayM) (s:SetM):Int:=((qG D s).countP fun k=>k == -1:Nat)
end
theorem JS {l:List Int} {k:Nat} {x:Int} (p:Int→Bool) (h:l[k]? = some x):(l.drop k).countP p=(if p x=true then 1 else 0)+(l.drop (k+1)).countP p:=by
 obtain ⟨hk,rfl⟩:=List.getElem?_eq_some_iff.1 h
 rw [List.drop_eq_getElem_cons hk,List.countP_cons]
 omega
set_option maxHeartbeats 4000000 in
set_option maxRecDepth 100000 in
theorem Xr (D:DayM) (M:Nat) (A0:Nat→Prop) (w0 w:World) (h:St D M A0 w0 w) (s:SetM) (hord:s.order < 0) (hps:∀g,0≤s.p.get g∧s.p.get g≤100) (haw:0≤s.away∧s.away < 256) (hA:∀b,A0 b→b < w.heap.size) :
 Calls qj 57 #[dm D (some M),qL s] w fun e w'=>e=.returned (.int .i64 (QT D s))∧St D M A0 w0 w'∧w.grownBy w' (some M):=by
 have hpl:=fun W (hB:Below w.heap.size w W)=>jY (h.keep hB) s hord hps haw (fun b hb=>Nat.lt_of_lt_of_le (hA b hb) hB.size)
 have hlen:(qG D s).length≤20:=by rw [qX];exact h.sm.cs.1
 unfold QT
 generalize qG D s=R at *
 unfold dm qL at *
 have HP:=Lib.hid hpl
 clear hpl h hps hA
 obtain ⟨ts,ta,tc,gs,ga,gc,os,oa,oc,hs,ha,hc,cs,ca,cc⟩:=D
 simp only at *
 generalize Value.slice ta ts.length tc=x0 at *
 generalize Value.slice ga gs.length gc=x1 at *
 generalize Value.slice oa os.length oc=x2 at *
 generalize Value.slice ha hs.length hc=x3 at *
 generalize Value.slice ca cs.length cc=x4 at *
 go_enter (sf 57 f57),ntmps57
 go_wp2_with (go_at_call 38;(with_reducible refine (HP.out _ (by go_grown)).mono ?_);rintro e w1 ⟨a,c,rfl,hlc,hrow,hst,hg⟩;have HST:=Lib.hid hst;have HG:=Lib.hid (ql (qi (w:=w) (by go_grown)) hg);have HROW:=Lib.hid hrow;clear hst hg hrow)
 go_loopw [12,5] (fun i q wr=>∃(k A:Nat),i=.int .i64 k∧q=.int .i64 A∧k≤R.length∧A≤k∧wr=w1∧Hid (A+(R.drop k).countP (fun k=>k == -1)=R.countP fun k=>k == -1)) (fun i _ _=>R.length - (intOf i).toNat)
 case atStart=>exact ⟨0,0,rfl,rfl,by omega,by omega,rfl,Lib.hid (by simp)⟩
 case round =>
  obtain ⟨k,A,rfl,rfl,hk,hA,rfl,HE⟩:=hrel
  by_cases hlt:k < R.length
  ·obtain ⟨x,hx⟩:∃x,R[k]? = some x:=⟨R[k],by simp [hlt]⟩
   obtain ⟨b,o,rfl,hP⟩:=HROW.out (by omega)
   have hkc:(k:Int)≤(c:Int):=by omega
   have c0:=hP k x hx 0 _ rfl
   simp only [Nat.mul_one,Nat.add_zero] at c0
   have hE:=HE.out
   rw [JS _ hx] at hE
   clear hP hx
   by_cases e1:x=-1
   ·subst e1
    have HF:=Lib.hid hE
    clear hE
    go_wp2
    go_roundw
    case rel=>exact ⟨k+1,A+1,rfl,rfl,by omega,by omega,(by first | rfl | trivial),Lib.hid (by have e:=HF.out;simp at e ⊢;omega)⟩
    case measure=>simp [intOf];omega
   ·have hne:(x == -1)=false:=by simpa using e1
    have HF:=Lib.hid hE
    clear hE
    go_wp2
    go_roundw
    case rel=>exact ⟨k+1,A,rfl,rfl,by omega,by omega,(by first | rfl | trivial),Lib.hid (by have e:=HF.out;rw [hne] at e;simp at e ⊢;omega)⟩
    case measure=>simp [intOf];omega
  ·obtain rfl:k=R.length:=by omega
   have hE:=HE.out
   rw [List.drop_eq_nil_of_le (Nat.le_refl _)] at hE
   have HF:=Lib.hid hE
   clear hE
   go_wp2
   go_ret
   exact ⟨by have e:=HF.out;simp at e;rw [← e];rfl,HST.out,HG.out⟩
def Qv:List Int→List CalM→Bool
 | n :: ns,c :: cs=>(c.se == -2 || c.se == n) && Qv ns cs
 | _,_=>true
def zO (D:DayM) (p:PastM):Bool:=Qv (qG D (setOf p)) D.cs
theorem qaq {ns:List Int} {cs:List CalM} {k:Nat} {n:Int} {c:CalM} (h1:ns[k]? = some n) (h2:cs[k]? = some c):Qv (ns.drop k) (cs.drop k)=((c.se == -2 || c.se == n) && Qv (ns.drop (k+1)) (cs.drop (k+1))):=by
 obtain ⟨hk,rfl⟩:=List.getElem?_eq_some_iff.1 h1
 obtain ⟨hl,rfl⟩:=List.getElem?_eq_some_iff.1 h2
 rw [List.drop_eq_getElem_cons hk,List.drop_eq_getElem_cons hl]
 rfl
set_option maxHeartbeats 4000000 in
set_option maxRecDepth 100000 in
theorem qet (D:DayM) (M:Nat) (A0:Nat→Prop) (w0 w:World) (h:St D M A0 w0 w) (p:PastM) (hps:∀g,0≤p.get g∧p.get g≤100) (hA:∀b,A0 b→b < w.heap.size) :
 Calls qj 125 #[dm D (some M),pvP p] w fun e w'=>e=.returned (.bool (zO D p))∧St D M A0 w0 w'∧w.grownBy w' (some M):=by
 have hpl:=fun W (hB:Below w.heap.size w W)=>jY (h.keep hB) (setOf p) (by simp [setOf]) hps (by simp [setOf]) (fun b hb=>Nat.lt_of_lt_of_le (hA b hb) hB.size)
 have hlen:(qG D (setOf p)).length=D.cs.length:=qX _ _
 have has:=fun W=>zG p W
 have hcl:=h.sm.cs
 have hml:=h.kn.lt
 have HCS:=Lib.hid fun W (hB:Below w0.heap.size w0 W)=>h.at0.cs.keep hB
 unfold zO
 obtain ⟨F,hF⟩:∃F,Qv (qG D (setOf p)) D.cs=F:=⟨_,rfl⟩
 rw [hF]
 have HF:=Lib.hid hF
 clear hF
 generalize qG D (setOf p)=R at *
 generalize setOf p=s at *
 unfold dm pvP at *
 obtain ⟨sv,hsv⟩:∃sv,qL s=sv:=⟨_,rfl⟩
 rw [hsv] at has
 simp only [hsv] at hpl
 have HP:=Lib.hid hpl
 have HAS:=Lib.hid has
 clear hpl h hps has hA
 obtain ⟨pa,pb,pc,pd⟩:=p
 obtain ⟨ts,ta,tc,gs,ga,gc,os,oa,oc,hs,ha,hc,cs,ca,cc⟩:=D
 simp only at *
 go_enter (sf 125 f125),ntmps125
 go_upto_region 1 with fail
 go_cut [11,12,13] from 8 to 13 (fun q11 q12 q13 wx=>∃a c V,V=wx∧q11=.slice a R.length c∧q12=.int .i64 R.length∧q13=.int .i64 0∧R.length≤c∧qh wx 1 encI a R∧St ⟨ts,ta,tc,gs,ga,gc,os,oa,oc,hs,ha,hc,cs,ca,cc⟩ M A0 w0 wx∧w.grownBy wx (some M)∧wx.cell? ⟨w.heap.size,4,none⟩=some (.slice ca cs.length cc))
 case first =>
  go_wp2_with fail
  refine wp_region_any (by kernel_rfl) ?_;try (change wpAny _ _ _ _ _ _ _ (World.drew _))
  (refine wpAny_take (i:=5) (v:=?_) rfl (by kernel_rfl) (by kernel_rfl) (by kernel_rfl) (fun _ _ _ h=>h) (Or.inl ⟨by rfl,?_⟩) ?_;rotate_left 1;focus (intro w;go_simp;first | done | with_reducible rfl);try simp only [zs,Act.put])
  refine wpAny_ready (rs:=[0,1]) (by kernel_rfl) (by simp) ?_
  refine AllReady.cons rfl (fun K hK=>?_) ?_
  ·skip
   go_simp
   refine hK _ _ ?_
   clear hK K
   (refine wpAny_ready (rs:=[1]) (by kernel_rfl) (by simp) ?_;refine AllReady.cons rfl (fun K hK=>?_) AllReady.nil;go_simp;refine hK _ _ ?_;clear hK K)
   refine wpAny_ready (rs:=[2]) (by kernel_rfl) (by simp) ?_
   refine AllReady.cons rfl (fun K hK=>?_) AllReady.nil
   go_simp
   go_wp2_with (go_at_call 39;(with_reducible refine (HAS.out _).mono ?_);rintro e wa ⟨rfl,hBa⟩;have hBw:=Below.call (B:=w.heap.size) (w:=w) (by go_grown) hBa (Nat.le_refl _);have k0:=qb ⟨w.heap.size,0,none⟩ hBa (v:=.slice ta ts.length tc) (by go_cell);have k1:=qb ⟨w.heap.size,1,none⟩ hBa (v:=.slice ga gs.length gc) (by go_cell);have k2:=qb ⟨w.heap.size,2,none⟩ hBa (v:=.slice oa os.length oc) (by go_cell);have k3:=qb ⟨w.heap.size,3,none⟩ hBa (v:=.slice ha hs.length hc) (by go_cell);have k4:=qb ⟨w.heap.size,4,none⟩ hBa (v:=.slice ca cs.length cc) (by go_cell);have k5:=qb ⟨w.heap.size,5,none⟩ hBa (v:=.map (some M)) (by go_cell))
   try (refine hK _ _ ?_;clear hK K)
   refine wpAny_ready (rs:=[3]) (by kernel_rfl) (by simp) ?_;refine AllReady.cons rfl (fun K hK=>?_) AllReady.nil;go_simp;go_wp2_with ((go_at_call 38;(with_reducible refine (HP.out _ (by first | exact hBw | exact hBw.drew | go_grown)).mono ?_);rintro e w1 ⟨a,c,rfl,hlc,hrow,hst,hg⟩));try (refine hK _ _ ?_;clear hK K)
   (refine wpAny_take (i:=4) (v:=?_) rfl (by kernel_rfl) (by kernel_rfl) (by kernel_rfl) (fun _ _ _ h=>h) (Or.inl ⟨by rfl,?_⟩) ?_;rotate_left 1;focus (intro w;go_simp;first | done | with_reducible rfl);try simp only [zs,Act.put])
   refine wpAny_done (by kernel_rfl) ?_ _;try simp only [zs,Act.put]
   go_wp2_with fail
   go_meet
   exact ⟨a,c,_,rfl,by rw [hlen],by rw [hlen],rfl,hlc,hrow,hst,ql (qi (by first | exact hBw | exact hBw.drew | go_grown)) hg,qI hg (by first | exact k4 | go_cell) (by simp only;omega)⟩
  refine AllReady.cons rfl (fun K hK=>?_) AllReady.nil
  go_simp
  refine hK _ _ ?_
  clear hK K
  refine wpAny_ready (rs:=[0,2]) (by kernel_rfl) (by simp) ?_
  refine AllReady.cons rfl (fun K hK=>?_) ?_
  ·skip
   go_simp
   refine hK _ _ ?_
   clear hK K
   refine wpAny_ready (rs:=[2]) (by kernel_rfl) (by simp) ?_
   refine AllReady.cons rfl (fun K hK=>?_) AllReady.nil
   go_simp
   go_wp2_with (go_at_call 39;(with_reducible refine (HAS.out _).mono ?_);rintro e wa ⟨rfl,hBa⟩;have hBw:=Below.call (B:=w.heap.size) (w:=w) (by go_grown) hBa (Nat.le_refl _);have k0:=qb ⟨w.heap.size,0,none⟩ hBa (v:=.slice ta ts.length tc) (by go_cell);have k1:=qb ⟨w.heap.size,1,none⟩ hBa (v:=.slice ga gs.length gc) (by go_cell);have k2:=qb ⟨w.heap.size,2,none⟩ hBa (v:=.slice oa os.length oc) (by go_cell);have k3:=qb ⟨w.heap.size,3,none⟩ hBa (v:=.slice ha hs.length hc) (by go_cell);have k4:=qb ⟨w.heap.size,4,none⟩ hBa (v:=.slice ca cs.length cc) (by go_cell);have k5:=qb ⟨w.heap.size,5,none⟩ hBa (v:=.map (some M)) (by go_cell))
   try (refine hK _ _ ?_;clear hK K)
   refine wpAny_ready (rs:=[3]) (by kernel_rfl) (by simp) ?_;refine AllReady.cons rfl (fun K hK=>?_) AllReady.nil;go_simp;go_wp2_with ((go_at_call 38;(with_reducible refine (HP.out _ (by first | exact hBw | exact hBw.drew | go_grown)).mono ?_);rintro e w1 ⟨a,c,rfl,hlc,hrow,hst,hg⟩));try (refine hK _ _ ?_;clear hK K)
   (refine wpAny_take (i:=4) (v:=?_) rfl (by kernel_rfl) (by kernel_rfl) (by kernel_rfl) (fun _ _ _ h=>h) (Or.inl ⟨by rfl,?_⟩) ?_;rotate_left 1;focus (intro w;go_simp;first | done | with_reducible rfl);try simp only [zs,Act.put])
   refine wpAny_done (by kernel_rfl) ?_ _;try simp only [zs,Act.put]
   go_wp2_with fail
   go_meet
   exact ⟨a,c,_,rfl,by rw [hlen],by rw [hlen],rfl,hlc,hrow,hst,ql (qi (by first | exact hBw | exact hBw.drew | go_grown)) hg,qI hg (by first | exact k4 | go_cell) (by simp only;omega)⟩
  refine AllReady.cons rfl (fun K hK=>?_) AllReady.nil
  go_simp
  go_wp2_with (go_at_call 39;(with_reducible refine (HAS.out _).mono ?_);rintro e wa ⟨rfl,hBa⟩;have hBw:=Below.call (B:=w.heap.size) (w:=w) (by go_grown) hBa (Nat.le_refl _);have k0:=qb ⟨w.heap.size,0,none⟩ hBa (v:=.slice ta ts.length tc) (by go_cell);have k1:=qb ⟨w.heap.size,1,none⟩ hBa (v:=.slice ga gs.length gc) (by go_cell);have k2:=qb ⟨w.heap.size,2,none⟩ hBa (v:=.slice oa os.length oc) (by go_cell);have k3:=qb ⟨w.heap.size,3,none⟩ hBa (v:=.slice ha hs.length hc) (by go_cell);have k4:=qb ⟨w.heap.size,4,none⟩ hBa (v:=.slice ca cs.length cc) (by go_cell);have k5:=qb ⟨w.heap.size,5,none⟩ hBa (v:=.map (some M)) (by go_cell))
  try (refine hK _ _ ?_;clear hK K)
  (refine wpAny_ready (rs:=[0]) (by kernel_rfl) (by simp) ?_;refine AllReady.cons rfl (fun K hK=>?_) AllReady.nil;go_simp;refine hK _ _ ?_;clear hK K)
  refine wpAny_ready (rs:=[3]) (by kernel_rfl) (by simp) ?_;refine AllReady.cons rfl (fun K hK=>?_) AllReady.nil;go_simp;go_wp2_with ((go_at_call 38;(with_reducible refine (HP.out _ (by first | exact hBw | exact hBw.drew | go_grown)).mono ?_);rintro e w1 ⟨a,c,rfl,hlc,hrow,hst,hg⟩));try (refine hK _ _ ?_;clear hK K)
  (refine wpAny_take (i:=4) (v:=?_) rfl (by kernel_rfl) (by kernel_rfl) (by kernel_rfl) (fun _ _ _ h=>h) (Or.inl ⟨by rfl,?_⟩) ?_;rotate_left 1;focus (intro w;go_simp;first | done | with_reducible rfl);try simp only [zs,Act.put])
  refine wpAny_done (by kernel_rfl) ?_ _;try simp only [zs,Act.put]
  go_wp2_with fail
  go_meet
  exact ⟨a,c,_,rfl,by rw [hlen],by rw [hlen],rfl,hlc,hrow,hst,ql (qi (by first | exact hBw | exact hBw.drew | go_grown)) hg,qI hg (by first | exact k4 | go_cell) (by simp only;omega)⟩
 case rest =>
  obtain ⟨a,c,V,rfl,rfl,rfl,rfl,hlc,hrow,hst,hg,h4⟩:=hcut
  have hcs:=HCS.out V hst.bel
  have HST:=Lib.hid hst
  have HG:=Lib.hid hg
  have HROW:=Lib.hid hrow
  have HC2:=Lib.hid hcs
  clear hst hg hrow hcs
  go_wp2_with fail
  go_loopw [13] (fun i wr=>∃k:Nat,i=.int .i64 k∧k≤R.length∧wr=V∧Hid (Qv (R.drop k) (cs.drop k)=F)) (fun i _=>R.length - (intOf i).toNat)
  case atStart=>exact ⟨0,rfl,by omega,rfl,HF⟩
  case round =>
   obtain ⟨k,rfl,hk,rfl,HE⟩:=hrel
   by_cases hlt:k < R.length
   ·obtain ⟨x,hx⟩:∃x,R[k]? = some x:=⟨R[k],by simp [hlt]⟩
    obtain ⟨y,hy⟩:∃x,cs[k]? = some x:=⟨cs[k]'(by omega),by simp⟩
    obtain ⟨b,o,rfl,hP⟩:=HROW.out (by omega)
    obtain ⟨cb,co,rfl,hQ⟩:=HC2.out (by show 1≤cs.length;omega)
    have hkc:(k:Int)≤(c:Int):=by omega
    have hkd:(k:Int)≤(cc:Int):=by omega
    have hke:(k:Int) < (cs.length:Int):=by omega
    have c0:=hP k x hx 0 _ rfl
    have d4:=hQ k y hy 4 _ rfl
    simp only [Nat.mul_one,Nat.add_zero] at c0
    have hE:=HE.out
    rw [qaq hx hy] at hE
    clear hP hQ hx hy
    obtain ⟨f1,f2,f3,f4,se⟩:=y
    simp only at d4 hE
    by_cases g1:se=-2
    ·subst g1
     have HF2:=Lib.hid hE
     clear hE
     go_wp2
     go_roundw
     case rel=>exact ⟨k+1,rfl,by omega,(by first | rfl | trivial),Lib.hid (by simpa using HF2.out)⟩
     case measure=>simp [intOf];omega
    ·have hne:(se != -2)=true:=by simpa using g1
     by_cases g2:se=x
     ·subst g2
      have HF2:=Lib.hid hE
      clear hE
      go_wp2
      go_roundw
      case rel=>exact ⟨k+1,rfl,by omega,(by first | rfl | trivial),Lib.hid (by simpa using HF2.out)⟩
      case measure=>simp [intOf];omega
     ·have hne2:(se != x)=true:=by simpa using g2
      have hFf:F=false:=by rw [← hE];simp [g1,g2]
      clear hE
      subst hFf
      go_wp2
      go_ret
      exact ⟨rfl,HST.out,HG.out⟩
   ·obtain rfl:k=R.length:=by omega
    have hFt:F=true:=by
     rw [← HE.out,List.drop_eq_nil_of_le (Nat.le_refl _)]
     rfl
    subst hFt
    go_wp2
    go_ret
    exact ⟨rfl,HST.out,HG.out⟩
end Go.Proofs.Tryz
namespace Go.Proofs.Tryz
open Go Go.Load Go.RowKit
theorem yB {α:Type} (f:Nat→α→Int):∀(l:List α) (i:Nat),qY f i l=0→∀g∈l,∃j,f j g=0
 | [],_,_,g,hg=>by cases hg
 | x :: l,i,h,g,hg=>by
   unfold qY at h
   by_cases hx:f i x=0
   ·rw [if_neg (by simpa using hx)] at h
    rcases List.mem_cons.1 hg with rfl | hg
    ·exact ⟨i,hx⟩
    ·exact yB f l (i+1) h g hg
   ·rw [if_pos hx] at h;exact absurd h hx
theorem Xa (D:DayM) (tw:Int):∀(l:List Int) (t:Int) (ps:List Int),YD D tw t ps l=0→∀k∈l,0≤k∧k < D.gs.length
 | [],_,_,_,k,hk=>by cases hk
 | x :: l,t,ps,h,k,hk=>by
   unfold YD at h
   cases hb:btw x 0 (D.gs.length - 1) with
   | false=>rw [hb] at h;simp at h
   | true =>
     have hx:=zM.1 hb
     rw [hb] at h
     simp only [Bool.true_eq_false,if_false] at h
     rcases List.mem_cons.1 hk with rfl | hk
     ·omega
     ·split at h
      ·cases h
      ·split at h
       ·cases h
       ·split at h
        ·cases h
        ·exact Xa D tw l _ _ h k hk
theorem Qp (D:DayM):∀(l:List OrdM) (met:List (Int×Int)),yC D met l=0→∀o∈l,∃met,qeg D met o=0
 | [],_,_,o,ho=>by cases ho
 | x :: l,met,h,o,ho=>by
   unfold yC at h
   by_cases hx:qeg D met x=0
   ·rw [if_neg (by simpa using hx)] at h
    rcases List.mem_cons.1 ho with rfl | ho
    ·exact ⟨met,hx⟩
    ·exact Qp D l _ h o ho
   ·rw [if_pos hx] at h;exact absurd h hx
theorem zF (D:DayM) (h:checkN D=0):DayOK D:=by
 unfold checkN at h
 have z:∀{a b:Int},(if a≠0 then a else b)=0→a=0∧b=0:=fun {a b} h=>by
  by_cases ha:a=0
  ·rw [if_neg (by simpa using ha)] at h;exact ⟨ha,h⟩
  ·rw [if_pos ha] at h;exact absurd h ha
 obtain ⟨_,h⟩:=z h
 obtain ⟨hg,h⟩:=z h
 obtain ⟨ho,h⟩:=z h
 obtain ⟨hh,hc⟩:=z h
 unfold zS at hg
 unfold yV at ho
 unfold xR at hh
 unfold xX at hc
 have lg:¬ 4 < D.gs.length:=fun e=>by rw [if_pos e] at hg;cases hg
 have lo:¬ 6 < D.os.length:=fun e=>by rw [if_pos e] at ho;cases ho
 have lh:¬ 3 < D.hs.length:=fun e=>by rw [if_pos e] at hh;cases hh
 have lc:¬ 8 < D.cs.length:=fun e=>by rw [if_pos e] at hc;cases hc
 rw [if_neg lo] at ho
 rw [if_neg lh] at hh
 have hord:∀o∈D.os,o.ws.length≤3∧qY (XG D o) 0 o.ws=0:=fun o hm=>by
  obtain ⟨met,e⟩:=Qp D D.os [] ho o hm
  unfold qeg at e
  obtain ⟨_,e⟩:=z e
  split at e
  ·cases e
  ·split at e
   ·cases e
   ·exact ⟨by omega,e⟩
 refine ⟨by omega,by omega,by omega,fun o hm=>(hord o hm).1,fun o hm x hx k hk=>?_,fun x hx=>?_⟩
 ·obtain ⟨j,e⟩:=yB _ _ _ (hord o hm).2 x hx
  unfold XG at e
  obtain ⟨e,_⟩:=z e
  unfold qaA at e
  split at e
  ·cases e
  ·exact Xa D _ _ _ _ e k hk
 ·obtain ⟨j,e⟩:=yB _ _ _ hh x hx
  unfold hldA at e
  split at e
  ·cases e
  ·split at e
   ·cases e
   ·rename_i h1
    simp only [Bool.not_eq_false,Bool.and_eq_true] at h1
    have:=zM.1 h1.1.1
    omega
theorem QP (D:DayM) (h:checkN D=0):∀g∈D.gs,0≤g.lo∧g.lo≤g.hi∧g.hi≤6∧g.hi - g.lo < 3:=by
 unfold checkN at h
 have z:∀{a b:Int},(if a≠0 then a else b)=0→a=0∧b=0:=fun {a b} h=>by
  by_cases ha:a=0
  ·rw [if_neg (by simpa using ha)] at h;exact ⟨ha,h⟩
  ·rw [if_pos ha] at h;exact absurd h ha
 obtain ⟨_,h⟩:=z h
 obtain ⟨hg,_⟩:=z h
 unfold zS at hg
 split at hg
 ·cases hg
 ·intro g hm
  obtain ⟨j,e⟩:=yB _ _ _ hg g hm
  unfold grpA at e
  obtain ⟨_,e⟩:=z e
  split at e
  ·cases e
  ·omega
end Go.Proofs.Tryz
namespace Go.Proofs.Tryz
open Go Go.Load Go.LoadR Go.RowKit
theorem ji (w:World):(isAgg 40).run qj w=.ok true w:=by kernel_rfl
theorem xE (w:World):(Go.sizeOf 40).run qj w=.ok 2 w:=by kernel_rfl
set_option maxHeartbeats 1000000 in
set_option maxRecDepth 100000 in
theorem YK (l:List Int) (a:Option Addr) (c:Nat) (h1:1≤l.length) (h2:l.length≤c) (h3:l.length≤1000) (w:World) (hr:qh w 1 encI a l) :
 Calls qj 48 #[.slice a l.length c] w fun e w'=>e=.returned (.agg #[.int .i64 (l.getD 0 0),.int .i64 (l.getD (l.length - 1) 0)])∧Below w.heap.size w w':=by
 obtain ⟨b,o,rfl,hP⟩:=hr h1
 obtain ⟨x,hx⟩:∃x,l[0]? = some x:=⟨l[0],by simp⟩
 obtain ⟨y,hy⟩:∃x,l[l.length - 1]? = some x:=⟨l[l.length - 1]'(by omega),by simp⟩
 have c0:=hP 0 x hx 0 _ rfl
 have c1:=hP (l.length - 1) y hy 0 _ rfl
 rw [List.getD_eq_getElem?_getD,List.getD_eq_getElem?_getD,hx,hy]
 simp only [Option.getD_some]
 obtain ⟨n,hn⟩:∃n,l.length=n+1:=⟨l.length - 1,by omega⟩
 rw [hn] at h2 h3 c1 ⊢
 simp only [Nat.mul_one,Nat.add_zero,Nat.zero_mul,Nat.add_sub_cancel] at c0 c1
 have i0:(0:Int)≤(n:Int):=Int.natCast_nonneg n
 have i1:((n+1:Nat):Int) - 1=(n:Int):=by omega
 have i2:(0:Int) < ((n+1:Nat):Int):=by omega
 have i3:(n:Int) < ((n+1:Nat):Int):=by omega
 have i4:wrap64 (((n+1:Nat):Int) - 1)=(n:Int):=by rw [i1];unfold wrap64;omega
 have hbw:=lt_of_cell c0
 simp only at hbw
 clear hP hx hy hr h1 hn
 go_enter (sf 48 f48),ntmps48
 go_wp2
 go_region
 all_goals
  go_wp2
  refine bodyPost_ret (Qu results48 rfl (LoadR.load_2 ji xE (by go_cell) (by go_cell))) rfl ⟨rfl,?_⟩
  go_grown
def PastM.set (p:PastM):Nat→Int→PastM
 | 0,v=>{ p with a:=v }
 | 1,v=>{ p with b:=v }
 | 2,v=>{ p with c:=v }
 | _,v=>{ p with d:=v }
theorem PastM.get_set (p:PastM) {i:Nat} (hi:i < 4) (v:Int):(p.set i v).get i=v:=by
 match i,hi with
 | 0,_=>rfl
 | 1,_=>rfl
 | 2,_=>rfl
 | 3,_=>rfl
theorem PastM.get_set_ne (p:PastM) {i j:Nat} (hi:i < 4) (hj:j < 4) (h:j≠i) (v:Int):(p.set i v).get j=p.get j:=by
 match i,hi,j,hj with
 | 0,_,0,_=>exact absurd rfl h
 | 0,_,1,_=>rfl
 | 0,_,2,_=>rfl
 | 0,_,3,_=>rfl
 | 1,_,0,_=>rfl
 | 1,_,1,_=>exact absurd rfl h
 | 1,_,2,_=>rfl
 | 1,_,3,_=>rfl
 | 2,_,0,_=>rfl
 | 2,_,1,_=>rfl
 | 2,_,2,_=>exact absurd rfl h
 | 2,_,3,_=>rfl
 | 3,_,0,_=>rfl
 | 3,_,1,_=>rfl
 | 3,_,2,_=>rfl
 | 3,_,3,_=>exact absurd rfl h
theorem PastM.get_big (p:PastM) {j:Nat} (h:4≤j):p.get j=p.get 3:=by
 match j,h with
 | 0,h=>omega
 | 1,h=>omega
 | 2,h=>omega
 | 3,h=>omega
 | n+4,_=>rfl
theorem PastM.same {p q:PastM} (h:∀j,j < 4→p.get j=q.get j):p=q:=by
 obtain ⟨a,b,c,d⟩:=p
 obtain ⟨a',b',c',d'⟩:=q
 have h0:=h 0 (by omega)
 have h1:=h 1 (by omega)
 have h2:=h 2 (by omega)
 have h3:=h 3 (by omega)
 simp only [PastM.get] at h0 h1 h2 h3
 subst h0 h1 h2 h3
 rfl
def PastM.ok (p:PastM):Prop:=∀g,0≤p.get g∧p.get g≤100
theorem PastM.ok_set {p:PastM} (h:p.ok) {i:Nat} (hi:i < 4) {v:Int} (hv:0≤v∧v≤100):(p.set i v).ok:=by
 have hx:∀j,j < 4→0≤(p.set i v).get j∧(p.set i v).get j≤100:=fun j hj=>by
  by_cases e:j=i
  ·subst e;rw [PastM.get_set _ hj];exact hv
  ·rw [PastM.get_set_ne _ hi hj e];exact h j
 intro g
 by_cases hg:g < 4
 ·exact hx g hg
 ·rw [PastM.get_big _ (by omega)];exact hx 3 (by omega)
def QF (lo hi:Int):List Int:=(List.range (hi - lo+1).toNat).map fun (k:Nat)=>lo+k
theorem XI {lo hi:Int} (h:hi < lo):QF lo hi=[]:=by
 unfold QF
 rw [show (hi - lo+1).toNat=0 by omega]
 rfl
theorem YJ {lo hi:Int} (h:lo≤hi):QF lo hi=lo :: QF (lo+1) hi:=by
 unfold QF
 rw [show (hi - lo+1).toNat=(hi - (lo+1)+1).toNat+1 by omega,List.range_succ_eq_map,List.map_cons,List.map_map]
 congr 1
 ·simp
 ·apply List.map_congr_left
  intro k _
  simp only [Function.comp]
  omega
def za:List GrpM→Nat→PastM→List PastM
 | [],_,p=>[p]
 | g :: gs,i,p=>(QF g.lo g.hi).flatMap fun n=>za gs (i+1) (p.set i n)
def qo (D:DayM):List PastM:=(za D.gs 0 ⟨0,0,0,0⟩).filter (zO D)
def Zm (gs:List GrpM) (i:Nat) (p:PastM) (n hi:Int):List PastM:=(QF n hi).flatMap fun n=>za gs (i+1) (p.set i n)
theorem Yl {gs:List GrpM} {i:Nat} {p:PastM} {n hi:Int} (h:n≤hi):Zm gs i p n hi=za gs (i+1) (p.set i n) ++ Zm gs i p (n+1) hi:=by
 unfold Zm
 rw [YJ h,List.flatMap_cons]
theorem qck {gs:List GrpM} {i:Nat} {p:PastM} {n hi:Int} (h:hi < n):Zm gs i p n hi=[]:=by
 unfold Zm
 rw [XI h]
 rfl
theorem Jl {gs:List GrpM} {i:Nat} {g:GrpM} (h:gs[i]? = some g) (p:PastM):za (gs.drop i) i p=Zm (gs.drop (i+1)) i p g.lo g.hi:=by
 obtain ⟨hk,rfl⟩:=List.getElem?_eq_some_iff.1 h
 rw [List.drop_eq_getElem_cons hk]
 rfl
abbrev pt (b:Nat):Value:=.pointer (some ⟨b,0,none⟩)
structure NB (D:DayM) (M s l:Nat) (W:World) (q:PastM):Prop where
 d6:B6 W s (.slice D.ta D.ts.length D.tc) (.slice D.ga D.gs.length D.gc) (.slice D.oa D.os.length D.oc) (.slice D.ha D.hs.length D.hc) (.slice D.ca D.cs.length D.cc) (.map (some M))
 y:W.cell? ⟨s+1,0,none⟩=some (.func (.yield l) #[] #[])
 n:W.cell? ⟨s+3,0,none⟩=some (.func (.func 124) #[] #[pt s,pt (s+2),pt (s+1),pt (s+3)])
 c:∀i,i < 4→W.cell? ⟨s+2,i,none⟩=some (.int .i64 (q.get i))
 f:∀i,i < 4→W.frozen? ⟨s+2,i,none⟩=false
section
variable {D:DayM} {M s l:Nat} {W W1:World} {q:PastM}
theorem NB.same (h:NB D M s l W q) (hk:∀b,s≤b→b < s+4→W1.heap[b]? = W.heap[b]?):NB D M s l W1 q:=by
 have c0:∀(b i:Nat) (v:Value),s≤b→b < s+4→W.cell? ⟨b,i,none⟩=some v→W1.cell? ⟨b,i,none⟩=some v:=fun b i v h1 h2 hc=>(World.cell?_of_block (a:=⟨b,i,none⟩) (hk b h1 h2)).trans hc
 refine ⟨⟨?_,?_,?_,?_,?_,?_⟩,?_,?_,?_,?_⟩
 ·exact c0 _ _ _ (by omega) (by omega) h.d6.c0
 ·exact c0 _ _ _ (by omega) (by omega) h.d6.c1
 ·exact c0 _ _ _ (by omega) (by omega) h.d6.c2
 ·exact c0 _ _ _ (by omega) (by omega) h.d6.c3
 ·exact c0 _ _ _ (by omega) (by omega) h.d6.c4
 ·exact c0 _ _ _ (by omega) (by omega) h.d6.c5
 ·exact c0 _ _ _ (by omega) (by omega) h.y
 ·exact c0 _ _ _ (by omega) (by omega) h.n
 ·exact fun i hi=>c0 _ _ _ (by omega) (by omega) (h.c i hi)
 ·exact fun i hi=>(World.frozen?_of_block (a:=⟨s+2,i,none⟩) (hk (s+2) (by omega) (by omega))).trans (h.f i hi)
theorem qf {a:Addr} {p:Addr} {v u:Value} (hc:W.cell? a=some v) (h:a.block≠p.block∨a.off≠p.off):(W.setCell p u).cell? a=some v:=by
 rw [World.cell?_setCell_other _ _ _ _ (fun e=>by subst e;rcases h with h | h <;> exact h rfl)]
 exact hc
theorem NB.put (h:NB D M s l W q) {i:Nat} (hi:i < 4) (n:Int):NB D M s l (W.setCell ⟨s+2,i,none⟩ (.int .i64 n)) (q.set i n):=by
 refine ⟨⟨?_,?_,?_,?_,?_,?_⟩,?_,?_,?_,?_⟩
 ·exact qf h.d6.c0 (.inl (by simp))
 ·exact qf h.d6.c1 (.inl (by simp))
 ·exact qf h.d6.c2 (.inl (by simp))
 ·exact qf h.d6.c3 (.inl (by simp))
 ·exact qf h.d6.c4 (.inl (by simp))
 ·exact qf h.d6.c5 (.inl (by simp))
 ·exact qf h.y (.inl (by simp))
 ·exact qf h.n (.inl (by simp))
 ·intro j hj
  by_cases e:j=i
  ·subst e
   rw [PastM.get_set _ hi]
   exact qp (qz (h.c j hj))
  ·rw [PastM.get_set_ne _ hi hj e]
   exact qf (h.c j hj) (.inr e)
 ·intro j hj
  simpa using h.f j hj
end
def cI (W:World) (a:Addr):Int:=match W.cell? a with
 | some (.int _ n)=>n
 | _=>0
theorem cI_of {W:World} {a:Addr} {n:Int} (h:W.cell? a=some (.int .i64 n)):cI W a=n:=by
 unfold cI
 rw [h]
set_option maxHeartbeats 4000000 in
set_option maxRecDepth 100000 in
theorem next_any {D:DayM} {M s l N:Nat} {J:List PastM→World→Prop} (hl:D.gs.length≤4) (hlc:D.gs.length≤D.gc) (hb:∀g∈D.gs,0≤g.lo∧g.lo≤g.hi∧g.hi≤6)
 (jg:∀o W,J o W→qh W 4 XR D.ga D.gs)
 (jr:∀o W q,J o W→s+4≤W.heap.size→q.ok→Calls qj 125 #[dm D (some M),pvP q] W fun e W'=>e=.returned (.bool (zO D q))∧J o W'∧∀b,s≤b→b < s+4→W'.heap[b]? = W.heap[b]?)
 (jk:∀o W W1,J o W→Below W.heap.size W W1→J o W1)
 (jp:∀o W i n,J o W→s+4≤W.heap.size→J o (W.setCell ⟨s+2,i,none⟩ (.int .i64 n)))
 (jy:∀o W q,J o W→o.length < N→NB D M s l W q→q.ok→zO D q=true→YieldAt Fence.wide 1 qj l #[pvP q] W fun e W'=>e=.returned (.bool true)∧J (o ++ [q]) W'∧∀b,s≤b→b < s+4→W'.heap[b]? = W.heap[b]?) :
 ∀m i,i+m=D.gs.length→∀o W p q,J o W→NB D M s l W q→(∀j,j < 4→j < i∨D.gs.length≤j→q.get j=p.get j)→p.ok→o.length+((za (D.gs.drop i) i p).filter (zO D)).length≤N →
  Calls qj 124 #[.int .i64 i,pt s,pt (s+2),pt (s+1),pt (s+3)] W fun e W'=>e=.returned (.bool true)∧J (o ++ (za (D.gs.drop i) i p).filter (zO D)) W'∧∃q',NB D M s l W' q'∧∀j,j < 4→j < i∨D.gs.length≤j→q'.get j=p.get j:=by
 intro m
 induction m with
 | zero =>
   intro i hi o W p q hJ hN hq hp hnl
   obtain rfl:i=D.gs.length:=by omega
   obtain rfl:q=p:=PastM.same fun j hj=>hq j hj (by omega)
   have hr:=jr o W q hJ (by have:=lt_of_cell hN.n;simp only at this;omega) hp
   rw [List.drop_eq_nil_of_le (Nat.le_refl _)] at hnl ⊢
   have HN:=Lib.hid hN
   obtain ⟨⟨k0,k1,k2,k3,k4,k5⟩,y,n,c,f⟩:=hN
   have c0:=c 0 (by omega)
   have c1:=c 1 (by omega)
   have c2:=c 2 (by omega)
   have c3:=c 3 (by omega)
   simp only [PastM.get] at c0 c1 c2 c3
   have hy:=fun W1 J1 N1 h=>jy o W1 q J1 (by simp [za,h] at hnl;omega) N1 hp h
   clear jr jp jy jg jk hb hq hp c f hi hnl
   have HJ:=Lib.hid hJ
   clear hJ
   cases hrb:zO D q with
   | false =>
     rw [hrb] at hr
     clear hy
     have HE:Hid (o ++ [q].filter (zO D)=o):=Lib.hid (by simp [hrb])
     unfold dm pvP at hr
     clear hrb
     generalize Value.slice D.ta D.ts.length D.tc=x0 at *
     generalize Value.slice D.oa D.os.length D.oc=x2 at *
     generalize Value.slice D.ha D.hs.length D.hc=x3 at *
     generalize Value.slice D.ca D.cs.length D.cc=x4 at *
     go_enter (sf 124 f124),ntmps124
     go_wp2_with (go_at_call 125;(with_reducible refine hr.mono ?_);rintro e w1 ⟨rfl,hJ1,hk1⟩)
     go_ret
     refine ⟨rfl,?_,_,HN.out.same hk1,fun j hj _=>rfl⟩
     show J (o ++ [q].filter (zO D)) w1
     rw [HE.out]
     exact hJ1
   | true =>
     rw [hrb] at hr
     have HE:Hid ([q].filter (zO D)=[q]):=Lib.hid (by simp [hrb])
     have HY:=Lib.hid (fun W1 J1 N1=>hy W1 J1 N1 hrb)
     clear hy
     unfold dm pvP at hr
     clear hrb
     generalize Value.slice D.ta D.ts.length D.tc=x0 at *
     generalize Value.slice D.oa D.os.length D.oc=x2 at *
     generalize Value.slice D.ha D.hs.length D.hc=x3 at *
     generalize Value.slice D.ca D.cs.length D.cc=x4 at *
     go_enter (sf 124 f124),ntmps124
     go_upto_region 2 with fail
     refine (wpIn_wide (n:=2)).1 ?_
     gi_wp2_with (first | (refine ⟨trivial,?_⟩;gi_at_call 125;(with_reducible refine (callsIn_wide.2 hr).mono ?_);rintro e w1 ⟨rfl,hJ1,hk1⟩;have hN1:=HN.out.same hk1;obtain ⟨fn,tmps,assign,body,hy,hR⟩:=HY.out w1 hJ1 hN1;obtain ⟨-,y1,-,e1,-⟩:=id hN1;have d0:=e1 0 (by omega);have d1:=e1 1 (by omega);have d2:=e1 2 (by omega);have d3:=e1 3 (by omega);clear e1;simp only [PastM.get] at d0 d1 d2 d3;unfold pvP at hy))
     refine hR.mono ?_
     rintro e w2 ⟨rfl,hJ2,hk2⟩
     gi_wp2
     go_wp2
     go_ret
     refine ⟨rfl,?_,_,hN1.same hk2,fun j hj _=>rfl⟩
     show J (o ++ [q].filter (zO D)) w2
     rw [HE.out]
     exact hJ2
 | succ m ih =>
   intro i hi o W p q hJ hN hq hp hnl
   have hlt:i < D.gs.length:=by omega
   obtain ⟨g,hg⟩:∃g,D.gs[i]? = some g:=⟨D.gs[i],by simp [hlt]⟩
   have hgb:=hb g (List.mem_of_getElem? hg)
   rw [Jl hg] at hnl ⊢
   have hi4:i < 4:=by omega
   have hne:((i:Int) == (D.gs.length:Int))=false:=by simp;omega
   have hi0:(0:Int)≤(i:Int):=Int.natCast_nonneg i
   have hi1:(i:Int) < 4:=by omega
   have hi2:(i:Int) < (D.gs.length:Int):=by omega
   have hi3:(i:Int)≤(D.gc:Int):=by omega
   have hw:wrap64 ((i:Int)+1)=(i:Int)+1:=by unfold wrap64;omega
   obtain ⟨gb,go,hga,-⟩:=jg o W hJ (by omega)
   have hP:∀o W,J o W→W.cell? ⟨gb,go+i * 4+2,none⟩=some (.int .i64 g.lo)∧W.cell? ⟨gb,go+i * 4+3,none⟩=some (.int .i64 g.hi):=fun o W hJ=>by
    obtain ⟨b,o',e,h⟩:=jg o W hJ (by omega)
    rw [hga] at e
    cases e
    exact ⟨h i g hg 2 _ rfl,h i g hg 3 _ rfl⟩
   have HPS:=Lib.hid hP
   obtain ⟨clo,chi⟩:=hP o W hJ
   have HIH:=Lib.hid (ih (i+1) (by omega))
   have HK:=Lib.hid (And.intro jk jp)
   have HJ:=Lib.hid hJ
   have HN:=Lib.hid hN
   have HQ:=Lib.hid hq
   have HP:=Lib.hid hp
   obtain ⟨⟨k0,k1,k2,k3,k4,k5⟩,y,nx,c,f⟩:=hN
   have ci:=c i hi4
   have fi:=f i hi4
   rw [hga] at k1
   obtain ⟨R,hR⟩:∃R,(Zm (D.gs.drop (i+1)) i p g.lo g.hi).filter (zO D)=R:=⟨_,rfl⟩
   rw [hR] at hnl ⊢
   have HR:=Lib.hid hR
   clear hR ih jr jp jy jg jk hb hq hp hJ c f hP hg hl hlc
   obtain ⟨lo,hlo⟩:∃x,g.lo=x:=⟨_,rfl⟩
   obtain ⟨hi',hhi⟩:∃x,g.hi=x:=⟨_,rfl⟩
   rw [hlo] at clo hgb
   rw [hhi] at chi hgb
   rw [hlo,hhi] at HPS HR
   go_enter (sf 124 f124),ntmps124
   go_wp2
   go_loopw [6] (fun i0 wr=>∃(n:Int) (o':List PastM) (q':PastM),i0=.bool false∧lo≤n∧n≤hi'+1∧Hid (q'.get i=n)∧Hid (NB D M s l wr q')∧Hid (∀j,j < 4→j < i∨D.gs.length≤j→q'.get j=p.get j)∧Hid (J o' wr)∧Hid (o' ++ (Zm (D.gs.drop (i+1)) i p n hi').filter (zO D)=o ++ R)) (fun _ wr=>(hi'+1 - cI wr ⟨s+2,i,none⟩).toNat)
   case atStart=>exact ⟨lo,o,_,rfl,by omega,by omega,Lib.hid (PastM.get_set _ hi4 lo),Lib.hid (HN.out.put hi4 lo),Lib.hid (fun j hj hji=>by rw [PastM.get_set_ne _ hi4 hj (by omega)];exact HQ.out j hj hji),Lib.hid (HK.out.2 _ _ _ _ HJ.out (by have:=lt_of_cell HN.out.n;simp only at this;omega)),Lib.hid (by rw [HR.out])⟩
   case round =>
    clear y nx k0 k1 k2 k3 k4 k5 ci fi clo chi HN HQ HJ
    obtain ⟨n,o',q',rfl,hn0,hn1,HG,HN,HQ,HJ,HE⟩:=hrel
    obtain ⟨⟨k0,k1,k2,k3,k4,k5⟩,y,nx,c,f⟩:=id HN.out
    have ci:=c i hi4
    have fi:=f i hi4
    rw [HG.out] at ci
    rw [hga] at k1
    obtain ⟨clo,chi⟩:=HPS.out _ _ HJ.out
    have hm:cI wr ⟨s+2,i,none⟩=n:=cI_of ci
    clear c f
    by_cases hle:n≤hi'
    ·have hwn:wrap64 (n+1)=n+1:=by unfold wrap64;omega
     have hih:=HIH.out
     go_wp2
     go_quiet (fail)
     have hBd:Below wr.heap.size wr (wr.drewN nq):=Zw (Below.refl _ _) nq
     have hNd:NB D M s l (wr.drewN nq) q':=HN.out.same (fun b _ _=>rfl)
     have hcl:=hih o' (wr.drewN nq) (p.set i n) q' (HK.out.1 _ _ _ HJ.out hBd) hNd (fun j hj hji=>by
      by_cases e:j=i
      ·subst e;rw [PastM.get_set _ hj];exact HG.out
      ·rw [PastM.get_set_ne _ hi4 hj e];exact HQ.out j hj (by omega)) (PastM.ok_set HP.out hi4 (by omega)) (by
      have e:=congrArg List.length HE.out
      rw [Yl hle,List.filter_append] at e
      simp only [List.length_append] at e
      omega)
     rw [show ((i+1:Nat):Int)=(i:Int)+1 from rfl] at hcl
     clear hih hNd
     go_wp2_with (go_at_call 124;(with_reducible refine hcl.mono ?_);rintro e w1 ⟨rfl,hJ1,q1,hN1,hq1⟩;have c1:=hN1.c i hi4;have f1:=hN1.f i hi4;have hg1:=hq1 i hi4 (.inl (by omega));rw [PastM.get_set _ hi4] at hg1;rw [hg1] at c1;have HJ1:=Lib.hid hJ1;have HN1:=Lib.hid hN1;have HQ1:=Lib.hid hq1;clear hJ1 hN1 hq1)
     go_roundw
     case rel =>
      refine ⟨n+1,_,q1.set i (n+1),rfl,by omega,by omega,Lib.hid (PastM.get_set _ hi4 _),Lib.hid (HN1.out.put hi4 (n+1)),Lib.hid (fun j hj hji=>?_),Lib.hid (HK.out.2 _ _ _ _ HJ1.out (by have:=lt_of_cell HN1.out.n;simp only at this;omega)),Lib.hid ?_⟩
      ·rw [PastM.get_set_ne _ hi4 hj (by omega),HQ1.out j hj (by omega),PastM.get_set_ne _ hi4 hj (by omega)]
      ·rw [← HE.out,Yl hle,List.filter_append,List.append_assoc]
     case measure=>rw [cI_of ((HN1.out.put hi4 (n+1)).c i hi4),PastM.get_set _ hi4,hm];omega
    ·have hq0:n=hi'+1:=by omega
     go_wp2
     go_quiet (fail)
     have hBd:Below wr.heap.size wr (wr.drewN nq):=Zw (Below.refl _ _) nq
     have hNd:NB D M s l (wr.drewN nq) q':=HN.out.same (fun b _ _=>rfl)
     have hJd:=HK.out.1 _ _ _ HJ.out hBd
     have hE:=HE.out
     rw [qck (by omega),List.filter_nil,List.append_nil] at hE
     rw [hE] at hJd
     go_wp2
     go_ret
     exact ⟨rfl,hJd,q',hNd,HQ.out⟩
def ZM (r:Loop):Loop:={ r with state:=.busy }
def XP (r:Loop):Loop:={ r with state:=.done,pending:=some .ret }
def qcf (r:Loop):Loop:={ r with state:=.exhausted }
def overR (r:Loop):Loop:={ r with state:=.exhausted,pending:=some .ret }
def qbk (l:Nat) (r:Loop) (R:Ending→World→Prop):Exit→Act→World→Prop
 | .normal,_,W=>W.heap[l]? = some (.loop (ZM r))∧R (.returned (.bool true)) (W.putObj l (.loop r))
 | .ret,_,W=>W.heap[l]? = some (.loop (ZM r))∧R (.returned (.bool false)) (W.putObj l (.loop (XP r)))
 | _,_,_=>False
theorem qbu {l n:Nat} {r:Loop} {p:Tmp} {x:Value} {W:World} {R:Ending→World→Prop} (hl:W.heap[l]? = some (.loop r)) (hps:r.params=#[p]) (hr:r.state=.ready) (hn:r.pending=none)
 (h:r.assign.wpIn (Fence.wide.inRound l) n qj (Exit.then (fun a1 w1=>w1.heap[l]? = some (.loop r)∧r.body.wpIn (Fence.wide.inRound l) n qj (qbk l r R) a1 (w1.putObj l (.loop (ZM r)))) (fun _ _ _=>False)) { tmps:=r.tmps.setIfInBounds p x,defers:=[] } W) :
 YieldAt Fence.wide n qj l #[x] W R:=by
 have ez:(r.params.zip #[x]).foldl (fun t (p,v)=>t.setIfInBounds p v) r.tmps=r.tmps.setIfInBounds p x:=by rw [hps];simp [Array.zip]
 rw [← ez] at h
 refine ⟨r.fn,_,r.assign,r.body,run_yield hl (by simp [hps]),roundIn_of_wpIn trivial (wpIn_mono h fun e a1 w1 hq=>?_)⟩
 cases e with
 | normal =>
   obtain ⟨h1,h2⟩:=hq
   refine ⟨_,run_beginRound h1 hr,wpIn_mono h2 fun e a3 W3 hp=>?_⟩
   cases e with
   | normal =>
     obtain ⟨g1,g2⟩:=hp
     refine ⟨_,_,run_endRound none g1,?_⟩
     obtain ⟨s,pe,f,t,ps,asg,bo,d⟩:=r
     simp only at hr hn
     subst hr hn
     exact g2
   | ret =>
     obtain ⟨g1,g2⟩:=hp
     exact ⟨_,_,run_endRound (some .ret) g1,g2⟩
   | exit id=>exact hp.elim
   | goto t=>exact hp.elim
   | panic c=>exact hp.elim
   | outgrown=>exact hp.elim
 | exit id=>exact hq.elim
 | goto t=>exact hq.elim
 | ret=>exact hq.elim
 | panic c=>exact hq.elim
 | outgrown=>exact hq.elim
theorem qbs {g:Operand} {p:Tmp} {assign body:Code} {Q:Exit→Act→World→Prop} {a:Act} {w:World} {gf:FuncId} {rcv lb:Array Value}
 (hg:a.eval g=.func (.func gf) rcv lb) (eg:∀(args:Array Value) (w:World),(callFunc gf args).run qj w=.ok (.enter gf args) w)
 (h:∀r:Loop,r.state=.ready→r.pending=none→r.params=#[p]→r.tmps=a.tmps→r.assign=assign→r.body=body→∀W1,W1=(w.alloc (.deferred (some []))).alloc (.loop r) →
   Calls qj gf (rcv ++ #[.func (.yield (w.heap.size+1)) #[] #[]] ++ lb) W1 fun e W=>(∃v,e=.returned v) ∧
    ((W.heap[w.heap.size+1]? = some (.loop r)∧Q .normal { a with defers:={ target:=.collected w.heap.size,args:=#[] } :: a.defers } (W.putObj (w.heap.size+1) (.loop (qcf r)))) ∨
     (W.heap[w.heap.size+1]? = some (.loop (XP r))∧Code.ret.wpIn Fence.wide 2 qj Q { a with defers:={ target:=.collected w.heap.size,args:=#[] } :: a.defers } (W.putObj (w.heap.size+1) (.loop (overR r)))))) :
 (Code.rangeFunc g #[p] assign body).wpIn Fence.wide 2 qj Q a w:=by
 refine wpIn_rangeFunc ?_
 intro fn _
 obtain ⟨W1,hW1⟩:∃W1,W1=(w.alloc (.deferred (some []))).alloc (.loop { state:=.ready,pending:=none,fn,tmps:=a.tmps,params:=#[p],assign,body,defers:=w.heap.size }):=⟨_,rfl⟩
 have hh:=h _ rfl rfl rfl rfl rfl rfl W1 hW1
 refine ⟨w.heap.size+1,[{ target:=.collected w.heap.size,args:=#[] }],W1,{ target:=.fn (.func gf) lb,args:=rcv ++ #[.func (.yield (w.heap.size+1)) #[] #[]] },W1,gf,rcv ++ #[.func (.yield (w.heap.size+1)) #[] #[]] ++ lb,W1,by rw [hW1];exact run_enterLoop_outer _ _ _ _ _,?_,fun _ _=>trivial,?_,(fun h=>by cases h),?_⟩
 ·simp only [resolve,hg]
  simp [go_sem]
 ·simp [invoke,go_sem,eg]
 ·refine callsIn_wide.2 (hh.mono fun e W hW=>?_)
  obtain ⟨⟨v,rfl⟩,hW⟩:=hW
  rcases hW with ⟨h1,h2⟩ | ⟨h1,h2⟩
  ·exact ⟨none,_,run_endLoop h1 (by simp),h2⟩
  ·exact ⟨some .ret,_,run_endLoop h1 (by simp [XP]),h2⟩
structure Mod (S:Nat→Prop) (w w1:World):Prop where
 os:w1.os=w.os
 tape:w1.tape=w.tape
 output:w1.output=w.output
 size:w.heap.size≤w1.heap.size
 block:∀k,k < w.heap.size→¬ S k→w1.heap[k]? = w.heap[k]?
section
variable {S:Nat→Prop} {w w1 w2:World}
theorem Mod.refl (S:Nat→Prop) (w:World):Mod S w w:=⟨rfl,rfl,rfl,Nat.le_refl _,fun _ _ _=>rfl⟩
theorem Mod.trans (h:Mod S w w1) (k:Mod S w1 w2):Mod S w w2:=⟨k.os.trans h.os,k.tape.trans h.tape,k.output.trans h.output,Nat.le_trans h.size k.size,fun b hb hn=>(k.block b (Nat.lt_of_lt_of_le hb h.size) hn).trans (h.block b hb hn)⟩
theorem Mod.mono {S':Nat→Prop} (h:Mod S w w1) (hs:∀b,S b→S' b):Mod S' w w1:=⟨h.os,h.tape,h.output,h.size,fun k hk hn=>h.block k hk (fun e=>hn (hs k e))⟩
theorem Mod.grown {r:Option Nat} (hg:w.grownBy w1 r) (hr:∀b,r=some b→S b):Mod S w w1:=⟨hg.os,hg.tape,hg.output,hg.size,fun k hk hn=>hg.block k hk (fun e=>hn (hr k e.symm))⟩
theorem Mod.below (hB:Below w.heap.size w w1):Mod S w w1:=⟨hB.os,hB.tape,hB.output,hB.size,fun k hk _=>hB.block k hk⟩
theorem Mod.toT (h:Mod S w w1) {r:Option Nat} (hr:∀b,b < w.heap.size→S b→r=some b):w.grownBy w1 r:=⟨h.os,h.tape,h.output,h.size,fun k hk hn=>h.block k hk (fun hs=>hn (hr k hk hs).symm)⟩
theorem Mod.cell (h:Mod S w w1) {a:Addr} {v:Value} (hc:w.cell? a=some v) (hn:¬ S a.block):w1.cell? a=some v:=(World.cell?_of_block (h.block a.block (lt_of_cell hc) hn)).trans hc
theorem Mod.frozen (h:Mod S w w1) {a:Addr} {v:Value} (hc:w.cell? a=some v) (hn:¬ S a.block):w1.frozen? a=w.frozen? a:=World.frozen?_of_block (h.block a.block (lt_of_cell hc) hn)
theorem Mod.owns (h:Mod S w w1) {base e size n:Nat} {v:Value} {xs:List Value} (ho:w.ownsRow base e size v n xs) (hn:∀b,v.ownBlock=some b→¬ S b):w1.ownsRow base e size v n xs:=by
 refine ⟨ho.1,?_⟩
 rcases ho.2 with hz | ⟨g,cap,cur,rfl,hb,hgg,rest⟩
 ·exact .inl hz
 ·refine .inr ⟨g,cap,cur,rfl,hb,?_,rest⟩
  rw [h.block g (Array.getElem?_eq_some_iff.1 hgg).1 (hn g rfl)]
  exact hgg
theorem KN.mod {D:DayM} {M:Nat} {A A':Nat→Prop} (h:KN D M A w) (hm:Mod S w w1) (hs:∀b,S b→A b∧b≠M) (hA:∀b,A' b→A b∨w.heap.size≤b):KN D M A' w1:=by
 obtain ⟨f,h1,h2⟩:=h
 refine ⟨f,h1.block (hm.block M h1.lt (fun e=>(hs M e).2 rfl)),fun s v hv=>?_⟩
 obtain ⟨a,c,e,l,q,z⟩:=h2 s v hv
 refine ⟨a,c,e,l,fun hl=>?_,fun p hp=>⟨Nat.lt_of_lt_of_le (z p hp).1 hm.size,fun h9=>?_⟩⟩
 ·obtain ⟨b,o,rfl,hq⟩:=q hl
  have hb:=z _ rfl
  exact ⟨b,o,rfl,fun i x hx j v hv=>hm.cell (hq i x hx j v hv) (fun e=>hb.2 (hs _ e).1)⟩
 ·rcases hA _ h9 with h9 | h9
  ·exact (z p hp).2 h9
  ·have:=(z p hp).1;omega
theorem St.mod {D:DayM} {M:Nat} {A A':Nat→Prop} {w0:World} (h:St D M A w0 w) (hm:Mod S w w1) (hs:∀b,S b→A b∧b≠M∧w0.heap.size≤b) (hA:∀b,A' b→A b∨w.heap.size≤b):St D M A' w0 w1 :=
 ⟨⟨hm.os.trans h.bel.os,hm.tape.trans h.bel.tape,hm.output.trans h.bel.output,Nat.le_trans h.bel.size hm.size,fun k hk=>(hm.block k (Nat.lt_of_lt_of_le hk h.bel.size) (fun e=>by have:=(hs k e).2.2;omega)).trans (h.bel.block k hk)⟩,h.le,h.at0,h.sm,h.ok,h.kn.mod hm (fun b e=>⟨(hs b e).1,(hs b e).2.1⟩) hA⟩
end
end Go.Proofs.Tryz
namespace Go.Proofs.Tryz
open Go Go.Load Go.LoadR Go.RowKit Go.Maps
theorem qdq {w W W1:World} {M:Nat} {r:Option Nat} (h:w.grownBy W (some M)) (k:W.grownBy W1 r) (hr:∀b,r=some b→w.heap.size≤b):w.grownBy W1 (some M) :=
 ⟨k.os.trans h.os,k.tape.trans h.tape,k.output.trans h.output,Nat.le_trans h.size k.size,fun b hb hne=>(k.block b (Nat.lt_of_lt_of_le hb h.size) (fun e=>by have:=hr b e.symm;omega)).trans (h.block b hb hne)⟩
theorem zC {w W W1:World} {M:Nat} {S:Nat→Prop} (h:w.grownBy W (some M)) (k:Mod S W W1) (hr:∀b,S b→w.heap.size≤b):w.grownBy W1 (some M) :=
 ⟨k.os.trans h.os,k.tape.trans h.tape,k.output.trans h.output,Nat.le_trans h.size k.size,fun b hb hne=>(k.block b (Nat.lt_of_lt_of_le hb h.size) (fun e=>by have:=hr b e;omega)).trans (h.block b hb hne)⟩
end Go.Proofs.Tryz
namespace Go.Proofs.Tryz
open Go Go.Load Go.LoadR Go.RowKit
def jd (D:DayM) (c:CalM):Nat:=match D.os.findIdx? (zY c) with
 | some k=>k
 | none=>D.os.length
theorem ordIx_at {D:DayM} {c:CalM} {k:Nat} {o:OrdM} (h:D.os[k]? = some o) (hn:∀(j:Nat) x,j < k→D.os[j]? = some x→zY c x=false) (hp:zY c o=true):jd D c=k:=by
 unfold jd
 have:D.os.findIdx? (zY c)=some k:=by
  rw [List.findIdx?_eq_some_iff_getElem]
  obtain ⟨hk,rfl⟩:=List.getElem?_eq_some_iff.1 h
  exact ⟨hk,hp,fun j hj=>by rw [hn j _ hj (List.getElem?_eq_getElem (by omega))];simp⟩
 rw [this]
theorem qcc {D:DayM} {c:CalM} (hn:∀(j:Nat) x,j < D.os.length→D.os[j]? = some x→zY c x=false):jd D c=D.os.length:=by
 unfold jd
 have:D.os.findIdx? (zY c)=none:=by
  rw [List.findIdx?_eq_none_iff]
  intro x hx
  obtain ⟨j,hj,rfl⟩:=List.getElem_of_mem hx
  exact hn j _ hj (List.getElem?_eq_getElem hj)
 rw [this]
theorem qcd {D:DayM} {c:CalM} (h:jd D c < D.os.length):D.os[jd D c]? = some (qJ D c):=by
 unfold jd at *
 cases hf:D.os.findIdx? (zY c) with
 | none=>rw [hf] at h;simp at h
 | some k =>
   have:zu D c=k:=by unfold zu Zq;rw [hf]
   exact zV this
theorem ordIx_le (D:DayM) (c:CalM):jd D c≤D.os.length:=by
 unfold jd
 cases hf:D.os.findIdx? (zY c) with
 | none=>exact Nat.le_refl _
 | some k =>
   obtain ⟨hk,_⟩:=List.findIdx?_eq_some_iff_getElem.1 hf
   exact Nat.le_of_lt hk
theorem qeh {D:DayM} {c:CalM} (h:jd D c=D.os.length):qJ D c=⟨0,0,[],none,0⟩:=by
 refine zU ?_
 unfold jd at h
 unfold zu Zq
 cases hf:D.os.findIdx? (zY c) with
 | none=>simp
 | some k =>
   rw [hf] at h
   obtain ⟨hk,_⟩:=List.findIdx?_eq_some_iff_getElem.1 hf
   simp only at h
   omega
set_option maxHeartbeats 2000000 in
set_option maxRecDepth 100000 in
theorem Zl (D:DayM) (c:CalM) (w:World) (h:DayAt w D) (hs:DaySm D):Calls qj 60 #[dv D,.int .i64 c.fr,.int .i64 c.toT] w fun e w'=>e=.returned (.int .i64 (jd D c))∧Below w.heap.size w w':=by
 have hos:=h.os
 have hsm:=hs.os
 obtain ⟨R,hR⟩:∃R,jd D c=R:=⟨_,rfl⟩
 have HA:=Lib.hid fun (k:Nat) (o:OrdM) (hx:D.os[k]? = some o) (hn:∀(j:Nat) x,j < k→D.os[j]? = some x→zY c x=false) (hp:zY c o=true)=>(hR.symm.trans (ordIx_at hx hn hp))
 have HN:=Lib.hid fun (hn:∀(j:Nat) x,j < D.os.length→D.os[j]? = some x→zY c x=false)=>(hR.symm.trans (qcc hn))
 have HO:Hid (∀x:OrdM,zY c x=(x.fr == c.fr && x.toT == c.toT)):=Lib.hid fun _=>rfl
 rw [hR]
 clear h hs hR
 obtain ⟨cf,ct,co,cl,se⟩:=c
 unfold dv
 generalize zY ⟨cf,ct,co,cl,se⟩=IO at *
 obtain ⟨ts,ta,tc,gs,ga,gc,os,oa,oc,hs,ha,hc,cs,ca,cc⟩:=D
 simp only at *
 generalize Value.slice ta ts.length tc=x0
 generalize Value.slice ga gs.length gc=x1
 generalize Value.slice ha hs.length hc=x3
 generalize Value.slice ca cs.length cc=x4
 have HT:=Lib.hid hos
 clear hos
 go_enter (sf 60 f60),ntmps60
 obtain ⟨W,hW⟩:∃W,w.alloc (Obj.cells #[x0,x1,.slice oa os.length oc,x3,x4] 28)=W:=⟨_,rfl⟩
 have h5:W.cell? ⟨w.heap.size,2,none⟩=some (.slice oa os.length oc):=by subst hW;go_cell
 have hBW:Below w.heap.size w W:=by subst hW;go_grown
 go_wp2
 try rw [hW]
 clear hW
 go_loopw [7] (fun i wr=>∃k:Nat,i=.int .i64 k∧k≤os.length∧wr=W∧Hid (∀(j:Nat) x,j < k→os[j]? = some x→IO x=false)) (fun i _=>os.length - (intOf i).toNat)
 case atStart=>exact ⟨0,rfl,Nat.zero_le _,rfl,Lib.hid fun j x hj=>absurd hj (Nat.not_lt_zero _)⟩
 case round =>
  obtain ⟨k,rfl,hk,rfl,HK⟩:=hrel
  by_cases hlt:k < os.length
  ·obtain ⟨x,hx⟩:∃x,os[k]? = some x:=⟨os[k],by simp [hlt]⟩
   obtain ⟨b,o,rfl,hP⟩:=HT.out (by omega)
   have hkc:(k:Int)≤(oc:Int):=by omega
   have hki:(k:Int) < (os.length:Int):=by omega
   have c0:=qb _ hBW (hP k x hx 0 _ rfl)
   have c1:=qb _ hBW (hP k x hx 1 _ rfl)
   simp only [Nat.add_zero] at c0
   have hIO:=HO.out x
   have HNX:IO x=false→Hid (∀(j:Nat) y,j < k+1→os[j]? = some y→IO y=false):=fun h=>Lib.hid fun j y hj hy=>by
    rcases Nat.lt_succ_iff_lt_or_eq.1 hj with h1 | rfl
    ·exact HK.out j y h1 hy
    ·rw [hx] at hy
     cases hy
     exact h
   have HAX:IO x=true→R=k:=fun h=>HA.out k x hx HK.out h
   clear hP hx
   obtain ⟨fr,tw,ws,wa,wc⟩:=x
   simp only at *
   by_cases e1:fr=cf
   ·subst e1
    by_cases e2:tw=ct
    ·subst e2
     have hr:=HAX (by rw [hIO];simp)
     subst hr
     clear HAX HNX hIO
     go_wp2
     go_ret
     exact ⟨rfl,hBW⟩
    ·have e3:(tw != ct)=true:=by simpa using e2
     have HNX:=HNX (by rw [hIO];simp [e2])
     clear HAX hIO
     go_wp2
     go_roundw
     case rel=>exact ⟨k+1,rfl,by omega,(by first | rfl | trivial),HNX⟩
     case measure=>simp [intOf];omega
   ·have e3:(fr != cf)=true:=by simpa using e1
    have HNX:=HNX (by rw [hIO];simp [e1])
    clear HAX hIO
    go_wp2
    go_roundw
    case rel=>exact ⟨k+1,rfl,by omega,(by first | rfl | trivial),HNX⟩
    case measure=>simp [intOf];omega
  ·obtain rfl:k=os.length:=by omega
   have hr:=HN.out HK.out
   subst hr
   go_wp2
   go_ret
   exact ⟨rfl,hBW⟩
set_option maxHeartbeats 2000000 in
set_option maxRecDepth 100000 in
theorem qal (D:DayM) (c:CalM) (w:World) (h:DayAt w D) (hs:DaySm D):Calls qj 21 #[dv D,cvC c] w fun e w'=>e=.returned (YE D c)∧Below w.heap.size w w':=by
 have hor:=fun W (hB:Below w.heap.size w W)=>Zl D c W (h.keep hB) hs
 have hos:=h.os
 have hsm:=hs.os
 have hle:=ordIx_le D c
 have hsome:=@qcd D c
 have hout:=@qeh D c
 obtain ⟨O,hO⟩:∃O,qJ D c=O:=⟨_,rfl⟩
 unfold YE
 rw [hO] at hsome hout ⊢
 generalize jd D c=R at *
 clear hO h hs
 unfold dv at *
 unfold cvC
 obtain ⟨cf,ct,co,cl,se⟩:=c
 obtain ⟨ts,ta,tc,gs,ga,gc,os,oa,oc,hs,ha,hc,cs,ca,cc⟩:=D
 simp only at *
 generalize Value.slice ta ts.length tc=x0 at *
 generalize Value.slice ga gs.length gc=x1 at *
 generalize Value.slice ha hs.length hc=x3 at *
 generalize Value.slice ca cs.length cc=x4 at *
 have HR:=Lib.hid hor
 clear hor
 by_cases hlt:R < os.length
 ·have hx:=hsome hlt
  obtain ⟨b,o,rfl,hP⟩:=hos (by omega)
  have hkc:(R:Int)≤(oc:Int):=by omega
  have hki:(R:Int) < (os.length:Int):=by omega
  have hcell:=hP R O hx 2 _ rfl
  obtain ⟨fr,tw,ws,wa,wc⟩:=O
  simp only at *
  clear hsome hout hP hx
  go_enter (sf 21 f21),ntmps21
  go_wp2_with (go_at_call 60;(with_reducible refine (HR.out _ (by go_grown)).mono ?_);rintro e w1 ⟨rfl,hB1⟩;have hB2:=Below.call (B:=w.heap.size) (w:=w) (by go_grown) hB1 (Nat.le_refl _);have hcell:=qb _ hB2 hcell;obtain ⟨hc,hg⟩:=zH hB1;have hz1:=hB1.size;simp at hz1;have hz2:w.heap.size < w1.heap.size:=(by omega))
  go_ret
  exact ⟨rfl,hB2⟩
 ·have he:R=os.length:=by omega
  subst he
  have hz:=hout rfl
  subst hz
  clear hsome hout hos
  go_enter (sf 21 f21),ntmps21
  go_wp2_with (go_at_call 60;(with_reducible refine (HR.out _ (by go_grown)).mono ?_);rintro e w1 ⟨rfl,hB1⟩;have hB2:=Below.call (B:=w.heap.size) (w:=w) (by go_grown) hB1 (Nat.le_refl _);obtain ⟨hc,hg⟩:=zH hB1;have hz1:=hB1.size;simp at hz1;have hz2:w.heap.size < w1.heap.size:=(by omega))
  go_ret
  exact ⟨rfl,hB2⟩
theorem wrapN {n:Nat} (h:n≤1000):IntKind.i64.wrap (n:Int)=(n:Int):=by rw [IntKind.wrap_i64];omega
set_option maxHeartbeats 4000000 in
set_option maxRecDepth 100000 in
theorem qch (D:DayM) (w:World) (h:DayAt w D) (hs:DaySm D):Calls qj 65 #[dv D] w fun e w'=>e=.returned (.int .i64 (xX D))∧Below w.heap.size w w':=by
 have hcs:=h.cs
 have hsm:=hs.cs
 have htl:=hs.ts.1
 have hwo:=fun c W (hB:Below w.heap.size w W)=>qal D c W (h.keep hB) hs
 have how:∀c,(qJ D c).ws.length≤20:=fun c=>by
  by_cases hz:zu D c < 0
  ·rw [zU hz];simp
  ·have:=zV (D:=D) (c:=c) (k:=(zu D c).toNat) (by omega)
   exact (hs.ws _ (List.mem_of_getElem? this)).1
 obtain ⟨R,hR⟩:∃R,xX D=R:=⟨_,rfl⟩
 rw [hR]
 unfold xX at hR
 have hdrop:=fun k c last (hx:D.cs[k]? = some c)=>ZN D last hx
 have hcase:=fun last c E n r r1 r2=>@YN D last c E n r r1 r2
 have hnil:∀last l,l.length=0→jK D last l=0:=fun last l h=>by cases l with | nil=>rfl | cons _ _=>cases h
 generalize qcL D=CA at *
 generalize jK D=CSA at *
 unfold dv at *
 clear h hs
 simp only [YE,cvC] at hwo
 obtain ⟨fa,hoa⟩:∃f:CalM→Option Addr,∀c,(qJ D c).a=f c:=⟨_,fun _=>rfl⟩
 obtain ⟨fn,hol⟩:∃f:CalM→Nat,∀c,(qJ D c).ws.length=f c:=⟨_,fun _=>rfl⟩
 obtain ⟨fc,hoc⟩:∃f:CalM→Nat,∀c,(qJ D c).c=f c:=⟨_,fun _=>rfl⟩
 simp only [hoa,hol,hoc] at *
 clear hoa hol hoc
 have hen:=fun one two=>Yk D.ta D.ts.length D.tc (by omega) (.slice D.ga D.gs.length D.gc) (.slice D.oa D.os.length D.oc) (.slice D.ha D.hs.length D.hc) (.slice D.ca D.cs.length D.cc) one two
 obtain ⟨ts,ta,tc,gs,ga,gc,os,oa,oc,hs,ha,hc,cs,ca,cc⟩:=D
 simp only at *
 generalize Value.slice ga gs.length gc=x2 at *
 generalize Value.slice oa os.length oc=x3 at *
 generalize Value.slice ha hs.length hc=x4 at *
 generalize hN:ts.length=N at *
 clear hN
 by_cases hlen:8 < cs.length
 ·simp [hlen] at hR
  subst hR
  clear hcs hwo
  go_enter (sf 65 f65),ntmps65
  go_wp2
  go_ret
  exact ⟨rfl,by go_grown⟩
 ·simp [hlen] at hR
  have HR:=Lib.hid hR
  have HT:=Lib.hid hcs
  have HD:=Lib.hid hdrop
  have HC:=Lib.hid hcase
  have HNIL:=Lib.hid hnil
  clear hR hcs hdrop hcase hnil
  go_enter (sf 65 f65),ntmps65
  obtain ⟨W,hW⟩:∃W,w.alloc (Obj.cells #[.slice ta N tc,x2,x3,x4,.slice ca cs.length cc] 28)=W:=⟨_,rfl⟩
  have h6:B5 W w.heap.size (.slice ta N tc) x2 x3 x4 (.slice ca cs.length cc):=by subst hW;exact B5.new ..
  have hBW:Below w.heap.size w W:=by subst hW;go_grown
  have k1:=h6.c4
  go_wp2
  try rw [hW]
  clear hW k1
  go_loopw [3] (fun i wr=>∃(k:Nat) (L:Int),i=.int .i64 k∧k≤cs.length∧Below W.heap.size W wr∧Hid (CSA L (cs.drop k)=R)∧Hid (if k=0 then L=0 else ∃y,cs[k - 1]? = some y∧y.co=L)) (fun i _=>cs.length - (intOf i).toNat)
  case atStart=>exact ⟨0,0,rfl,by omega,Below.refl _ _,HR,Lib.hid (by simp)⟩
  case round =>
   obtain ⟨k,L,rfl,hk,hBr,HE,HL⟩:=hrel
   obtain ⟨k0,k1,k2,k3,k4⟩:=h6.keep hBr
   have hBw:=bcl hBW hBr
   have hz:=lt_of_cell k0
   have hzW:=hBr.size
   simp only at hz
   by_cases hlt:k < cs.length
   ·obtain ⟨b,o,rfl,hP⟩:=HT.out (by omega)
    obtain ⟨c,hx⟩:∃x,cs[k]? = some x:=⟨cs[k],by simp [hlt]⟩
    have hkc:(k:Int)≤(cc:Int):=by omega
    have c0:=qb _ hBw (hP k c hx 0 _ rfl)
    have c1:=qb _ hBw (hP k c hx 1 _ rfl)
    have c2:=qb _ hBw (hP k c hx 2 _ rfl)
    have c3:=qb _ hBw (hP k c hx 3 _ rfl)
    have c4:=qb _ hBw (hP k c hx 4 _ rfl)
    simp only [Nat.add_zero] at c0
    have hpr:∀n,k=n+1→w.cell? ⟨b,o+n * 5+2,none⟩=some (.int .i64 L):=fun n hn=>by
     have h9:=HL.out
     rw [if_neg (by omega)] at h9
     obtain ⟨y,h1,h2⟩:=h9
     rw [show k - 1=n by omega] at h1
     rw [← h2]
     exact hP n y h1 2 _ rfl
    have HPR:=Lib.hid hpr
    have hL0:k=0→L=0:=fun h=>by have h9:=HL.out;rw [if_pos h] at h9;exact h9
    have HL0:=Lib.hid hL0
    have HX2:Hid (if k+1=0 then c.co=0 else ∃y,cs[k+1 - 1]? = some y∧y.co=c.co):=Lib.hid (by rw [if_neg (by omega)];exact ⟨c,hx,rfl⟩)
    have hA:=HE.out
    rw [HD.out _ _ _ hx] at hA
    clear hP hx hpr hL0
    have hwo:=fun W=>hwo c W
    have how:=how c
    obtain ⟨r,hr⟩:∃r,CA L c=r:=⟨_,rfl⟩
    have hcs:=HC.out L c _ _ r _ _ hr rfl rfl rfl rfl
    rw [hr] at hA
    clear hr
    generalize fa c=qa at *
    generalize fn c=qn at *
    generalize fc c=qc at *
    obtain ⟨fr,tw,co,cl,se⟩:=c
    have hen:=hen fr tw
    have hi1:=Qt co
    have hi2:=Qt cl
    simp only at *
    have hco:=@zM co 0 99
    generalize zJ N fr tw=E at *
    generalize btw co 0 99=r1 at *
    generalize btw cl 0 99=r2 at *
    have HA:=Lib.hid hA
    have HCO:=Lib.hid hco
    have HWO:=Lib.hid hwo
    clear hA hco hwo
    go_upto_region 7 with fail
    obtain ⟨U,hU⟩:∃U,wr.alloc (Obj.cells #[.int .i64 fr,.int .i64 tw,.int .i64 co,.int .i64 cl,.int .i64 se] 52)=U:=⟨_,rfl⟩
    have hBU:Below wr.heap.size wr U:=by subst hU;go_grown
    have d0:U.cell? ⟨wr.heap.size,0,none⟩=some (.int .i64 fr):=by subst hU;go_cell
    have d1:U.cell? ⟨wr.heap.size,1,none⟩=some (.int .i64 tw):=by subst hU;go_cell
    have d2:U.cell? ⟨wr.heap.size,2,none⟩=some (.int .i64 co):=by subst hU;go_cell
    have d3:U.cell? ⟨wr.heap.size,3,none⟩=some (.int .i64 cl):=by subst hU;go_cell
    have d4:U.cell? ⟨wr.heap.size,4,none⟩=some (.int .i64 se):=by subst hU;go_cell
    rw [hU]
    clear hU c0 c1 c2 c3 c4
    have k0:=qb _ hBU k0
    have k1:=qb _ hBU k1
    have k2:=qb _ hBU k2
    have k3:=qb _ hBU k3
    have k4:=qb _ hBU k4
    have hBwU:=bcl hBw hBU
    have hBrU:=bcl hBr hBU
    clear hBU
    by_cases hE:E=0
    rotate_left 1
    ·have g2:(E != 0)=true:=by simpa using hE
     rcases hcs with ⟨g1,rfl⟩ | h9
     ·have HA2:=HA
      clear g1 HCO
      go_wp2_with (go_at_call 97;(with_reducible refine (hen _).mono ?_);rintro e w1 ⟨rfl,hB1⟩;have hB2:=bcl hBwU hB1)
      go_ret
      exact ⟨by have e:=HA2.out;rw [if_pos hE] at e;rw [← e];rfl,hB2⟩
     ·exfalso
      rcases h9 with h9 | h9 | h9 | h9 | h9 | h9 | h9 <;> exact hE h9.1
    subst hE
    go_upto_region 10 with (go_at_call 97;(with_reducible refine (hen _).mono ?_);rintro e w1 ⟨rfl,hB1⟩)
    have hBwU:=bcl hBwU hB1
    have hBrU:=bcl hBrU hB1
    have k0:=qb _ hB1 k0
    have d0:=qb _ hB1 d0
    have k1:=qb _ hB1 k1
    have d1:=qb _ hB1 d1
    have k2:=qb _ hB1 k2
    have d2:=qb _ hB1 d2
    have k3:=qb _ hB1 k3
    have d3:=qb _ hB1 d3
    have k4:=qb _ hB1 k4
    have d4:=qb _ hB1 d4
    clear hB1 hen
    rcases Nat.eq_zero_or_pos k with h0 | h0
    ·subst h0
     obtain rfl:=HL0.out rfl
     rcases hcs with ⟨g1,rfl⟩ | ⟨_,rfl,rfl⟩ | ⟨_,rfl,rfl,rfl⟩ | ⟨_,rfl,rfl,g1,rfl⟩ | ⟨_,rfl,rfl,g1,g2,rfl⟩ | ⟨_,rfl,rfl,g1,g2,g3,rfl⟩ | ⟨_,rfl,rfl,g1,g2,g3,g4,rfl⟩ | ⟨_,rfl,rfl,g1,g2,g3,g4,rfl⟩
     ·simp at g1
     ·go_wp2_with (first | (go_at_call 52;(with_reducible refine (hi1 _).mono ?_);rintro e w1 ⟨rfl,rfl⟩) | (go_at_call 52;(with_reducible refine (hi2 _).mono ?_);rintro e w1 ⟨rfl,rfl⟩))
      go_ret
      exact ⟨by have e:=HA.out;simp at e;rw [← e];rfl,hBwU⟩
     ·go_wp2_with (first | (go_at_call 52;(with_reducible refine (hi1 _).mono ?_);rintro e w1 ⟨rfl,rfl⟩) | (go_at_call 52;(with_reducible refine (hi2 _).mono ?_);rintro e w1 ⟨rfl,rfl⟩))
      go_ret
      exact ⟨by have e:=HA.out;simp at e;rw [← e];rfl,hBwU⟩
     all_goals
      go_upto_region 12 with (first | (go_at_call 52;(with_reducible refine (hi1 _).mono ?_);rintro e w1 ⟨rfl,rfl⟩) | (go_at_call 52;(with_reducible refine (hi2 _).mono ?_);rintro e w1 ⟨rfl,rfl⟩))
      clear hi1 hi2
     ·skip
      refine wp_region_held_drew (S:=(RH3 w1 ⟨wr.heap.size,2,none⟩ ⟨wr.heap.size,3,none⟩ ⟨w.heap.size,4,none⟩ (.int .i64 co) (.int .i64 cl) (.slice (some ⟨b,o,none⟩) cs.length cc))) (by kernel_rfl) (by exact RHL.drew ⟨d2,d3,k4,Below.refl _ _⟩) (fun hHeld=>?_)
      (refine tk 0 ?_;try simp only [zs,Act.put])
      (refine tk 1 ?_;try simp only [zs,Act.put])
      (refine tk 2 ?_;try simp only [zs,Act.put])
      (refine tk 3 ?_;try simp only [zs,Act.put])
      (refine tk 4 ?_;try simp only [zs,Act.put])
      (refine tk 5 ?_;try simp only [zs,Act.put])
      (refine wpAnyH_take (i:=6) (v:=undef) rfl (by kernel_rfl) (by kernel_rfl) (by kernel_rfl) (fun _ _ _ h=>h) (Or.inr ⟨by kernel_rfl,rfl⟩) (by assumption) ?_;try simp only [zs,Act.put])
      (refine wpAnyH_take (i:=7) (v:=undef) rfl (by kernel_rfl) (by kernel_rfl) (by kernel_rfl) (fun _ _ _ h=>h) (Or.inr ⟨by kernel_rfl,rfl⟩) (by assumption) ?_;try simp only [zs,Act.put])
      (refine wpAnyH_take (i:=8) (v:=undef) rfl (by kernel_rfl) (by kernel_rfl) (by kernel_rfl) (fun _ _ _ h=>h) (Or.inr ⟨by kernel_rfl,rfl⟩) (by assumption) ?_;try simp only [zs,Act.put])
      (refine wpAnyH_take (i:=9) (v:=undef) rfl (by kernel_rfl) (by kernel_rfl) (by kernel_rfl) (fun _ _ _ h=>h) (Or.inr ⟨by kernel_rfl,rfl⟩) (by assumption) ?_;try simp only [zs,Act.put])
      (refine wpAnyH_take (i:=10) (v:=undef) rfl (by kernel_rfl) (by kernel_rfl) (by kernel_rfl) (fun _ _ _ h=>h) (Or.inr ⟨by kernel_rfl,rfl⟩) (by assumption) ?_;try simp only [zs,Act.put])
      (refine wpAnyH_take (i:=11) (v:=undef) rfl (by kernel_rfl) (by kernel_rfl) (by kernel_rfl) (fun _ _ _ h=>h) (Or.inr ⟨by kernel_rfl,rfl⟩) (by assumption) ?_;try simp only [zs,Act.put])
      (refine wpAnyH_take (i:=12) (v:=undef) rfl (by kernel_rfl) (by kernel_rfl) (by kernel_rfl) (fun _ _ _ h=>h) (Or.inr ⟨by kernel_rfl,rfl⟩) (by assumption) ?_;try simp only [zs,Act.put])
      (refine wpAnyH_take (i:=13) (v:=undef) rfl (by kernel_rfl) (by kernel_rfl) (by kernel_rfl) (fun _ _ _ h=>h) (Or.inr ⟨by kernel_rfl,rfl⟩) (by assumption) ?_;try simp only [zs,Act.put])
      (refine wpAnyH_take (i:=14) (v:=undef) rfl (by kernel_rfl) (by kernel_rfl) (by kernel_rfl) (fun _ _ _ h=>h) (Or.inr ⟨by kernel_rfl,rfl⟩) (by assumption) ?_;try simp only [zs,Act.put])
      (refine wpAnyH_take (i:=15) (v:=undef) rfl (by kernel_rfl) (by kernel_rfl) (by kernel_rfl) (fun _ _ _ h=>h) (Or.inr ⟨by kernel_rfl,rfl⟩) (by assumption) ?_;try simp only [zs,Act.put])
      (refine wpAnyH_take (i:=16) (v:=undef) rfl (by kernel_rfl) (by kernel_rfl) (by kernel_rfl) (fun _ _ _ h=>h) (Or.inr ⟨by kernel_rfl,rfl⟩) (by assumption) ?_;try simp only [zs,Act.put])
      (refine wpAnyH_take (i:=17) (v:=undef) rfl (by kernel_rfl) (by kernel_rfl) (by kernel_rfl) (fun _ _ _ h=>h) (Or.inr ⟨by kernel_rfl,rfl⟩) (by assumption) ?_;try simp only [zs,Act.put])
      (refine wpAnyH_take (i:=18) (v:=undef) rfl (by kernel_rfl) (by kernel_rfl) (by kernel_rfl) (fun _ _ _ h=>h) (Or.inr ⟨by kernel_rfl,rfl⟩) (by assumption) ?_;try simp only [zs,Act.put])
      (refine wpAnyH_take (i:=19) (v:=undef) rfl (by kernel_rfl) (by kernel_rfl) (by kernel_rfl) (fun _ _ _ h=>h) (Or.inr ⟨by kernel_rfl,rfl⟩) (by assumption) ?_;try simp only [zs,Act.put])
      (refine tk 20 ?_;try simp only [zs,Act.put])
      (refine tk 21 ?_;try simp only [zs,Act.put])
      refine wpAnyH_done (by kernel_rfl) ?_ _;try simp only [zs,Act.put]
      have hB4:=RHL.bel hHeld
      clear hHeld
      have hBw4:=bcl hBwU hB4
      have hBr4:=bcl hBrU hB4
      go_wp2
      go_ret
      exact ⟨by have e:=HA.out;simp at e;rw [← e];rfl,hBw4⟩
     ·exfalso
      have:=(HCO.out.1 (by first | rfl | trivial)).1
      omega
     all_goals
      have hd1:decide (cl≤co)=false:=decide_eq_false (by omega)
      refine wp_region_held_drew (S:=(RH3 w1 ⟨wr.heap.size,2,none⟩ ⟨wr.heap.size,3,none⟩ ⟨w.heap.size,4,none⟩ (.int .i64 co) (.int .i64 cl) (.slice (some ⟨b,o,none⟩) cs.length cc))) (by kernel_rfl) (by exact RHL.drew ⟨d2,d3,k4,Below.refl _ _⟩) (fun hHeld=>?_)
      (refine tk 0 ?_;try simp only [zs,Act.put])
      (refine tk 1 ?_;try simp only [zs,Act.put])
      (refine tk 2 ?_;try simp only [zs,Act.put])
      (refine tk 3 ?_;try simp only [zs,Act.put])
      (refine tk 4 ?_;try simp only [zs,Act.put])
      (refine tk 5 ?_;try simp only [zs,Act.put])
      (refine tk 6 ?_;try simp only [zs,Act.put])
      (refine tk 7 ?_;try simp only [zs,Act.put])
      (refine tk 8 ?_;try simp only [zs,Act.put])
      (refine wpAnyH_take (i:=9) (v:=undef) rfl (by kernel_rfl) (by kernel_rfl) (by kernel_rfl) (fun _ _ _ h=>h) (Or.inr ⟨by kernel_rfl,rfl⟩) (by assumption) ?_;try simp only [zs,Act.put])
      (refine wpAnyH_take (i:=10) (v:=undef) rfl (by kernel_rfl) (by kernel_rfl) (by kernel_rfl) (fun _ _ _ h=>h) (Or.inr ⟨by kernel_rfl,rfl⟩) (by assumption) ?_;try simp only [zs,Act.put])
      (refine wpAnyH_take (i:=11) (v:=undef) rfl (by kernel_rfl) (by kernel_rfl) (by kernel_rfl) (fun _ _ _ h=>h) (Or.inr ⟨by kernel_rfl,rfl⟩) (by assumption) ?_;try simp only [zs,Act.put])
      (refine wpAnyH_take (i:=12) (v:=undef) rfl (by kernel_rfl) (by kernel_rfl) (by kernel_rfl) (fun _ _ _ h=>h) (Or.inr ⟨by kernel_rfl,rfl⟩) (by assumption) ?_;try simp only [zs,Act.put])
      (refine wpAnyH_take (i:=13) (v:=undef) rfl (by kernel_rfl) (by kernel_rfl) (by kernel_rfl) (fun _ _ _ h=>h) (Or.inr ⟨by kernel_rfl,rfl⟩) (by assumption) ?_;try simp only [zs,Act.put])
      (refine wpAnyH_take (i:=14) (v:=undef) rfl (by kernel_rfl) (by kernel_rfl) (by kernel_rfl) (fun _ _ _ h=>h) (Or.inr ⟨by kernel_rfl,rfl⟩) (by assumption) ?_;try simp only [zs,Act.put])
      (refine wpAnyH_take (i:=15) (v:=undef) rfl (by kernel_rfl) (by kernel_rfl) (by kernel_rfl) (fun _ _ _ h=>h) (Or.inr ⟨by kernel_rfl,rfl⟩) (by assumption) ?_;try simp only [zs,Act.put])
      (refine wpAnyH_take (i:=16) (v:=undef) rfl (by kernel_rfl) (by kernel_rfl) (by kernel_rfl) (fun _ _ _ h=>h) (Or.inr ⟨by kernel_rfl,rfl⟩) (by assumption) ?_;try simp only [zs,Act.put])
      (refine wpAnyH_take (i:=17) (v:=undef) rfl (by kernel_rfl) (by kernel_rfl) (by kernel_rfl) (fun _ _ _ h=>h) (Or.inr ⟨by kernel_rfl,rfl⟩) (by assumption) ?_;try simp only [zs,Act.put])
      (refine wpAnyH_take (i:=18) (v:=undef) rfl (by kernel_rfl) (by kernel_rfl) (by kernel_rfl) (fun _ _ _ h=>h) (Or.inr ⟨by kernel_rfl,rfl⟩) (by assumption) ?_;try simp only [zs,Act.put])
      (refine tk 19 ?_;try simp only [zs,Act.put])
      (refine tk 20 ?_;try simp only [zs,Act.put])
      (refine tk 21 ?_;try simp only [zs,Act.put])
      refine wpAnyH_done (by kernel_rfl) ?_ _;try simp only [zs,Act.put]
      have hB4:=RHL.bel hHeld
      clear hHeld
      have hBw4:=bcl hBwU hB4
      have hBr4:=bcl hBrU hB4
      clear hd1
     ·skip
      go_wp2
      go_ret
      exact ⟨by have e:=HA.out;simp at e;rw [← e];rfl,hBw4⟩
     all_goals
      go_upto_region 16 with fail
      refine wp_region_held_drew (S:=(RH10 w1.drew ⟨w.heap.size,0,none⟩ ⟨w.heap.size,1,none⟩ ⟨w.heap.size,2,none⟩ ⟨w.heap.size,3,none⟩ ⟨w.heap.size,4,none⟩ ⟨wr.heap.size,0,none⟩ ⟨wr.heap.size,1,none⟩ ⟨wr.heap.size,2,none⟩ ⟨wr.heap.size,3,none⟩ ⟨wr.heap.size,4,none⟩ (.slice ta N tc) x2 x3 x4 (.slice (some ⟨b,o,none⟩) cs.length cc) (.int .i64 fr) (.int .i64 tw) (.int .i64 co) (.int .i64 cl) (.int .i64 se))) (by kernel_rfl) (by exact RHL.drew ⟨qb _ hB4 k0,qb _ hB4 k1,qb _ hB4 k2,qb _ hB4 k3,qb _ hB4 k4,qb _ hB4 d0,qb _ hB4 d1,qb _ hB4 d2,qb _ hB4 d3,qb _ hB4 d4,Below.refl _ _⟩) (fun hHeld=>?_)
      (refine tk 0 ?_;try simp only [zs,Act.put])
      (refine tk 1 ?_;try simp only [zs,Act.put])
      (refine tk 2 ?_;try simp only [zs,Act.put])
      (refine tk 3 ?_;try simp only [zs,Act.put])
      refine wpAnyH_ready (rs:=[4]) (by kernel_rfl) (by simp) ?_;refine AllReadyH.cons rfl (fun K hK=>?_) AllReadyH.nil;go_simp;go_wp2_with (go_at_call 21;(with_reducible refine (HWO.out _ (bcl hBw4 (RHL.bel hHeld))).mono ?_);rintro e X5 ⟨rfl,hB5⟩);refine hK.out _ _ (by exact RHL.call hHeld hB5) (fun hHeldN=>?_);clear hK K hHeld;have hHeld:=hHeldN;clear hHeldN;try simp only [zs,Act.put]
      (refine tk 5 ?_;try simp only [zs,Act.put])
      (refine tk 6 ?_;try simp only [zs,Act.put])
      (refine tk 7 ?_;try simp only [zs,Act.put])
      refine wpAnyH_done (by kernel_rfl) ?_ _;try simp only [zs,Act.put]
      have hB6:=RHL.bel hHeld
      clear hHeld
      have hBw6:=bcl hBw4 hB6
      have hBr6:=bcl hBr4 hB6
     ·skip
      go_wp2
      go_ret
      exact ⟨by have e:=HA.out;simp at e;rw [← e];rfl,hBw6⟩
     ·go_wp2
      go_roundw
      case rel=>exact ⟨0+1,co,(by first | rfl | (simp;omega)),by omega,hBr6,Lib.hid (by simpa using HA.out),HX2⟩
      case measure=>simp [intOf];omega
    ·obtain ⟨n,rfl⟩:∃n,k=n+1:=⟨k - 1,by omega⟩
     have p2:=qb _ hBwU (HPR.out n rfl)
     have en:((n+1:Nat):Int) - 1=(n:Int):=by omega
     have hn1:(0:Int) < ((n+1:Nat):Int):=by omega
     have hnc:(n:Int)≤(cc:Int):=by omega
     have hnl:(n:Int) < (cs.length:Int):=by omega
     have hn0:(0:Int)≤(n:Int):=Int.natCast_nonneg n
     have hwn:IntKind.i64.wrap (n:Int)=(n:Int):=wrapN (by omega)
     rcases hcs with ⟨g1,rfl⟩ | ⟨_,rfl,rfl⟩ | ⟨_,rfl,rfl,rfl⟩ | ⟨_,rfl,rfl,g1,rfl⟩ | ⟨_,rfl,rfl,g1,g2,rfl⟩ | ⟨_,rfl,rfl,g1,g2,g3,rfl⟩ | ⟨_,rfl,rfl,g1,g2,g3,g4,rfl⟩ | ⟨_,rfl,rfl,g1,g2,g3,g4,rfl⟩
     ·simp at g1
     ·go_wp2_with (first | (go_at_call 52;(with_reducible refine (hi1 _).mono ?_);rintro e w1 ⟨rfl,rfl⟩) | (go_at_call 52;(with_reducible refine (hi2 _).mono ?_);rintro e w1 ⟨rfl,rfl⟩))
      go_ret
      exact ⟨by have e:=HA.out;simp at e;rw [← e];rfl,hBwU⟩
     ·go_wp2_with (first | (go_at_call 52;(with_reducible refine (hi1 _).mono ?_);rintro e w1 ⟨rfl,rfl⟩) | (go_at_call 52;(with_reducible refine (hi2 _).mono ?_);rintro e w1 ⟨rfl,rfl⟩))
      go_ret
      exact ⟨by have e:=HA.out;simp at e;rw [← e];rfl,hBwU⟩
     all_goals
      go_upto_region 12 with (first | (go_at_call 52;(with_reducible refine (hi1 _).mono ?_);rintro e w1 ⟨rfl,rfl⟩) | (go_at_call 52;(with_reducible refine (hi2 _).mono ?_);rintro e w1 ⟨rfl,rfl⟩))
      clear hi1 hi2
     ·skip
      refine wp_region_held_drew (S:=(RH3 w1 ⟨wr.heap.size,2,none⟩ ⟨wr.heap.size,3,none⟩ ⟨w.heap.size,4,none⟩ (.int .i64 co) (.int .i64 cl) (.slice (some ⟨b,o,none⟩) cs.length cc))) (by kernel_rfl) (by exact RHL.drew ⟨d2,d3,k4,Below.refl _ _⟩) (fun hHeld=>?_)
      (refine tk 0 ?_;try simp only [zs,Act.put])
      (refine tk 1 ?_;try simp only [zs,Act.put])
      (refine tk 2 ?_;try simp only [zs,Act.put])
      (refine tk 3 ?_;try simp only [zs,Act.put])
      (refine tk 4 ?_;try simp only [zs,Act.put])
      (refine tk 5 ?_;try simp only [zs,Act.put])
      (refine wpAnyH_take (i:=6) (v:=undef) rfl (by kernel_rfl) (by kernel_rfl) (by kernel_rfl) (fun _ _ _ h=>h) (Or.inr ⟨by kernel_rfl,rfl⟩) (by assumption) ?_;try simp only [zs,Act.put])
      (refine wpAnyH_take (i:=7) (v:=undef) rfl (by kernel_rfl) (by kernel_rfl) (by kernel_rfl) (fun _ _ _ h=>h) (Or.inr ⟨by kernel_rfl,rfl⟩) (by assumption) ?_;try simp only [zs,Act.put])
      (refine wpAnyH_take (i:=8) (v:=undef) rfl (by kernel_rfl) (by kernel_rfl) (by kernel_rfl) (fun _ _ _ h=>h) (Or.inr ⟨by kernel_rfl,rfl⟩) (by assumption) ?_;try simp only [zs,Act.put])
      (refine wpAnyH_take (i:=9) (v:=undef) rfl (by kernel_rfl) (by kernel_rfl) (by kernel_rfl) (fun _ _ _ h=>h) (Or.inr ⟨by kernel_rfl,rfl⟩) (by assumption) ?_;try simp only [zs,Act.put])
      (refine wpAnyH_take (i:=10) (v:=undef) rfl (by kernel_rfl) (by kernel_rfl) (by kernel_rfl) (fun _ _ _ h=>h) (Or.inr ⟨by kernel_rfl,rfl⟩) (by assumption) ?_;try simp only [zs,Act.put])
      (refine wpAnyH_take (i:=11) (v:=undef) rfl (by kernel_rfl) (by kernel_rfl) (by kernel_rfl) (fun _ _ _ h=>h) (Or.inr ⟨by kernel_rfl,rfl⟩) (by assumption) ?_;try simp only [zs,Act.put])
      (refine wpAnyH_take (i:=12) (v:=undef) rfl (by kernel_rfl) (by kernel_rfl) (by kernel_rfl) (fun _ _ _ h=>h) (Or.inr ⟨by kernel_rfl,rfl⟩) (by assumption) ?_;try simp only [zs,Act.put])
      (refine wpAnyH_take (i:=13) (v:=undef) rfl (by kernel_rfl) (by kernel_rfl) (by kernel_rfl) (fun _ _ _ h=>h) (Or.inr ⟨by kernel_rfl,rfl⟩) (by assumption) ?_;try simp only [zs,Act.put])
      (refine wpAnyH_take (i:=14) (v:=undef) rfl (by kernel_rfl) (by kernel_rfl) (by kernel_rfl) (fun _ _ _ h=>h) (Or.inr ⟨by kernel_rfl,rfl⟩) (by assumption) ?_;try simp only [zs,Act.put])
      (refine wpAnyH_take (i:=15) (v:=undef) rfl (by kernel_rfl) (by kernel_rfl) (by kernel_rfl) (fun _ _ _ h=>h) (Or.inr ⟨by kernel_rfl,rfl⟩) (by assumption) ?_;try simp only [zs,Act.put])
      (refine wpAnyH_take (i:=16) (v:=undef) rfl (by kernel_rfl) (by kernel_rfl) (by kernel_rfl) (fun _ _ _ h=>h) (Or.inr ⟨by kernel_rfl,rfl⟩) (by assumption) ?_;try simp only [zs,Act.put])
      (refine wpAnyH_take (i:=17) (v:=undef) rfl (by kernel_rfl) (by kernel_rfl) (by kernel_rfl) (fun _ _ _ h=>h) (Or.inr ⟨by kernel_rfl,rfl⟩) (by assumption) ?_;try simp only [zs,Act.put])
      (refine wpAnyH_take (i:=18) (v:=undef) rfl (by kernel_rfl) (by kernel_rfl) (by kernel_rfl) (fun _ _ _ h=>h) (Or.inr ⟨by kernel_rfl,rfl⟩) (by assumption) ?_;try simp only [zs,Act.put])
      (refine wpAnyH_take (i:=19) (v:=undef) rfl (by kernel_rfl) (by kernel_rfl) (by kernel_rfl) (fun _ _ _ h=>h) (Or.inr ⟨by kernel_rfl,rfl⟩) (by assumption) ?_;try simp only [zs,Act.put])
      (refine tk 20 ?_;try simp only [zs,Act.put])
      (refine tk 21 ?_;try simp only [zs,Act.put])
      refine wpAnyH_done (by kernel_rfl) ?_ _;try simp only [zs,Act.put]
      have hB4:=RHL.bel hHeld
      clear hHeld
      have hBw4:=bcl hBwU hB4
      have hBr4:=bcl hBrU hB4
      go_wp2
      go_ret
      exact ⟨by have e:=HA.out;simp at e;rw [← e];rfl,hBw4⟩
     all_goals
      have hd1:decide (cl≤co)=false:=decide_eq_false (by omega)
      first | have hd2:decide (co < L)=true:=decide_eq_true (by omega) | have hd2:decide (co < L)=false:=decide_eq_false (by omega)
      have hd3:decide ((0:Int) < (n:Int)+1)=true:=decide_eq_true (by omega)
      have hd4:decide ((0:Int) < ((n+1:Nat):Int))=true:=decide_eq_true (by omega)
      refine wp_region_held_drew (S:=(RH4 w1 ⟨wr.heap.size,2,none⟩ ⟨wr.heap.size,3,none⟩ ⟨w.heap.size,4,none⟩ ⟨b,o+n * 5+2,none⟩ (.int .i64 co) (.int .i64 cl) (.slice (some ⟨b,o,none⟩) cs.length cc) (.int .i64 L))) (by kernel_rfl) (by exact RHL.drew ⟨d2,d3,k4,p2,Below.refl _ _⟩) (fun hHeld=>?_)
      (refine tk 0 ?_;try simp only [zs,Act.put])
      (refine tk 1 ?_;try simp only [zs,Act.put])
      (refine tk 2 ?_;try simp only [zs,Act.put])
      (refine tk 3 ?_;try simp only [zs,Act.put])
      (refine tk 4 ?_;try simp only [zs,Act.put])
      (refine tk 5 ?_;try simp only [zs,Act.put])
      (refine tk 6 ?_;try simp only [zs,Act.put])
      (refine tk 7 ?_;try simp only [zs,Act.put])
      (refine tk 8 ?_;try simp only [zs,Act.put])
      (refine tk 9 ?_;try simp only [zs,Act.put])
      (refine tk 10 ?_;try simp only [zs,Act.put])
      (refine tk 11 ?_;try simp only [zs,Act.put])
      (refine tk 12 ?_;try simp only [zs,Act.put])
      (refine tk 13 ?_;try simp only [zs,Act.put])
      (refine tk 14 ?_;try simp only [zs,Act.put])
      (refine tk 15 ?_;try simp only [zs,Act.put])
      (refine tk 16 ?_;try simp only [zs,Act.put])
      (refine tk 17 ?_;try simp only [zs,Act.put])
      (refine tk 18 ?_;try simp only [zs,Act.put])
      (refine tk 19 ?_;try simp only [zs,Act.put])
      (refine tk 20 ?_;try simp only [zs,Act.put])
      (refine tk 21 ?_;try simp only [zs,Act.put])
      refine wpAnyH_done (by kernel_rfl) ?_ _;try simp only [zs,Act.put]
      have hB4:=RHL.bel hHeld
      clear hHeld
      have hBw4:=bcl hBwU hB4
      have hBr4:=bcl hBrU hB4
      clear hd1 hd2 hd3 hd4
     ·skip
      go_wp2
      go_ret
      exact ⟨by have e:=HA.out;simp at e;rw [← e];rfl,hBw4⟩
     ·skip
      go_wp2
      go_ret
      exact ⟨by have e:=HA.out;simp at e;rw [← e];rfl,hBw4⟩
     all_goals clear p2 en hn1 hnc hnl hn0 hwn
     all_goals
      go_upto_region 16 with fail
      refine wp_region_held_drew (S:=(RH10 w1.drew ⟨w.heap.size,0,none⟩ ⟨w.heap.size,1,none⟩ ⟨w.heap.size,2,none⟩ ⟨w.heap.size,3,none⟩ ⟨w.heap.size,4,none⟩ ⟨wr.heap.size,0,none⟩ ⟨wr.heap.size,1,none⟩ ⟨wr.heap.size,2,none⟩ ⟨wr.heap.size,3,none⟩ ⟨wr.heap.size,4,none⟩ (.slice ta N tc) x2 x3 x4 (.slice (some ⟨b,o,none⟩) cs.length cc) (.int .i64 fr) (.int .i64 tw) (.int .i64 co) (.int .i64 cl) (.int .i64 se))) (by kernel_rfl) (by exact RHL.drew ⟨qb _ hB4 k0,qb _ hB4 k1,qb _ hB4 k2,qb _ hB4 k3,qb _ hB4 k4,qb _ hB4 d0,qb _ hB4 d1,qb _ hB4 d2,qb _ hB4 d3,qb _ hB4 d4,Below.refl _ _⟩) (fun hHeld=>?_)
      (refine tk 0 ?_;try simp only [zs,Act.put])
      (refine tk 1 ?_;try simp only [zs,Act.put])
      (refine tk 2 ?_;try simp only [zs,Act.put])
      (refine tk 3 ?_;try simp only [zs,Act.put])
      refine wpAnyH_ready (rs:=[4]) (by kernel_rfl) (by simp) ?_;refine AllReadyH.cons rfl (fun K hK=>?_) AllReadyH.nil;go_simp;go_wp2_with (go_at_call 21;(with_reducible refine (HWO.out _ (bcl hBw4 (RHL.bel hHeld))).mono ?_);rintro e X5 ⟨rfl,hB5⟩);refine hK.out _ _ (by exact RHL.call hHeld hB5) (fun hHeldN=>?_);clear hK K hHeld;have hHeld:=hHeldN;clear hHeldN;try simp only [zs,Act.put]
      (refine tk 5 ?_;try simp only [zs,Act.put])
      (refine tk 6 ?_;try simp only [zs,Act.put])
      (refine tk 7 ?_;try simp only [zs,Act.put])
      refine wpAnyH_done (by kernel_rfl) ?_ _;try simp only [zs,Act.put]
      have hB6:=RHL.bel hHeld
      clear hHeld
      have hBw6:=bcl hBw4 hB6
      have hBr6:=bcl hBr4 hB6
     ·skip
      go_wp2
      go_ret
      exact ⟨by have e:=HA.out;simp at e;rw [← e];rfl,hBw6⟩
     ·go_wp2
      go_roundw
      case rel=>exact ⟨(n+1)+1,co,(by first | rfl | (simp;omega)),by omega,hBr6,Lib.hid (by simpa using HA.out),HX2⟩
      case measure=>simp [intOf];omega
   ·obtain rfl:k=cs.length:=by omega
    have hA:=HE.out
    rw [HNIL.out _ _ (by simp)] at hA
    have HA:=Lib.hid hA
    clear hA
    go_wp2
    go_ret
    exact ⟨by rw [← HA.out];rfl,hBw⟩
end Go.Proofs.Tryz
namespace Go.Proofs.Tryz
open Go Go.Load Go.LoadR Go.RowKit Go.Maps
theorem NB.of {D:DayM} {M s l:Nat} {W:World} {q:PastM} (d6:B6 W s (.slice D.ta D.ts.length D.tc) (.slice D.ga D.gs.length D.gc) (.slice D.oa D.os.length D.oc) (.slice D.ha D.hs.length D.hc) (.slice D.ca D.cs.length D.cc) (.map (some M)))
 (y:W.cell? ⟨s+1,0,none⟩=some (.func (.yield l) #[] #[])) (n:W.cell? ⟨s+3,0,none⟩=some (.func (.func 124) #[] #[pt s,pt (s+2),pt (s+1),pt (s+3)]))
 (c0:W.cell? ⟨s+2,0,none⟩=some (.int .i64 q.a)) (c1:W.cell? ⟨s+2,1,none⟩=some (.int .i64 q.b)) (c2:W.cell? ⟨s+2,2,none⟩=some (.int .i64 q.c)) (c3:W.cell? ⟨s+2,3,none⟩=some (.int .i64 q.d))
 (f0:W.frozen? ⟨s+2,0,none⟩=false) (f1:W.frozen? ⟨s+2,1,none⟩=false) (f2:W.frozen? ⟨s+2,2,none⟩=false) (f3:W.frozen? ⟨s+2,3,none⟩=false):NB D M s l W q :=
 ⟨d6,y,n,fun i hi=>match i,hi with
   | 0,_=>c0
   | 1,_=>c1
   | 2,_=>c2
   | 3,_=>c3,fun i hi=>match i,hi with
   | 0,_=>f0
   | 1,_=>f1
   | 2,_=>f2
   | 3,_=>f3⟩
set_option maxHeartbeats 4000000 in
set_option maxRecDepth 100000 in
theorem qem {D:DayM} {M l:Nat} {J:List PastM→World→Prop} (w:World) (s:Nat) (hs:w.heap.size=s) (hl:D.gs.length≤4) (hlc:D.gs.length≤D.gc) (hb:∀g∈D.gs,0≤g.lo∧g.lo≤g.hi∧g.hi≤6)
 (jg:∀o W,J o W→qh W 4 XR D.ga D.gs)
 (jr:∀o W q,J o W→s+4≤W.heap.size→q.ok→Calls qj 125 #[dm D (some M),pvP q] W fun e W'=>e=.returned (.bool (zO D q))∧J o W'∧∀b,s≤b→b < s+4→W'.heap[b]? = W.heap[b]?)
 (jk:∀o W W1,J o W→Below W.heap.size W W1→J o W1)
 (jp:∀o W i n,J o W→s+4≤W.heap.size→J o (W.setCell ⟨s+2,i,none⟩ (.int .i64 n)))
 (jy:∀o W q,J o W→o.length < (qo D).length→NB D M s l W q→q.ok→zO D q=true→YieldAt Fence.wide 1 qj l #[pvP q] W fun e W'=>e=.returned (.bool true)∧J (o ++ [q]) W'∧∀b,s≤b→b < s+4→W'.heap[b]? = W.heap[b]?)
 (h0:J [] w) :
 Calls qj 101 #[dm D (some M),.func (.yield l) #[] #[]] w fun e w'=>(∃v,e=.returned v)∧J (qo D) w':=by
 subst hs
 have hnx:=fun W (hJ:J [] W) (hN:NB D M w.heap.size l W ⟨0,0,0,0⟩)=>next_any hl hlc hb jg jr jk jp jy D.gs.length 0 (by omega) [] W ⟨0,0,0,0⟩ ⟨0,0,0,0⟩ hJ hN (fun _ _ _=>rfl) (fun g=>by
  match g with
  | 0=>exact ⟨Int.le_refl _,(by decide:(0:Int)≤100)⟩
  | 1=>exact ⟨Int.le_refl _,(by decide:(0:Int)≤100)⟩
  | 2=>exact ⟨Int.le_refl _,(by decide:(0:Int)≤100)⟩
  | n+3=>exact ⟨Int.le_refl _,(by decide:(0:Int)≤100)⟩) (by rw [List.length_nil,Nat.zero_add];exact Nat.le_refl _)
 have HK:=Lib.hid (fun W=>jk [] w W h0)
 have HE:Hid (qo D=[] ++ (za (D.gs.drop 0) 0 ⟨0,0,0,0⟩).filter (zO D)):=Lib.hid rfl
 rw [HE.out]
 clear jg jr jk jp jy h0 hl hlc hb HE
 unfold dm
 have e0:((0:Nat):Int)=0:=rfl
 simp only [e0] at hnx
 have HX:=Lib.hid hnx
 clear hnx
 go_enter (sf 101 f101),ntmps101
 go_wp2_with (go_at_call 124;(with_reducible refine (HX.out _ (HK.out _ (by go_grown)) (NB.of ⟨by go_cell,by go_cell,by go_cell,by go_cell,by go_cell,by go_cell⟩ (by go_cell) (by go_cell) (by go_cell) (by go_cell) (by go_cell) (by go_cell) (by go_cell) (by go_cell) (by go_cell) (by go_cell))).mono ?_);rintro e w1 ⟨rfl,hJ1,q1,hN1,hq1⟩)
 go_end0
 exact ⟨⟨_,rfl⟩,hJ1⟩
end Go.Proofs.Tryz
section
namespace Go.Proofs.Tryz
open Go Go.Load Go.LoadR Go.RowKit Go.Maps
attribute [local go_sem] Oper.semAt_some
theorem qbR:(qj.info? 82).map (fun i=>(i.zero,i.size,i.bytes))=some (some (.agg #[.int .i64 0,.int .i64 0,.int .i64 0,.int .i64 0]),4,32):=by kernel_rfl
theorem past_one (q:PastM):∀u∈QK q,u.oneCell'=true:=by
 intro u hu
 simp only [QK,List.mem_cons,List.not_mem_nil,or_false] at hu
 rcases hu with rfl | rfl | rfl | rfl <;> rfl
theorem yJ (W:World) (p:Addr) (v:Value):W.grownBy (W.setCell p v) (some p.block):=⟨rfl,rfl,rfl,by simp,fun k _ hne=>Below.heap_setCell _ _ _ _ (fun e=>hne (congrArg some e))⟩
theorem Xh (W:World) (x0 x1 x2 x3:Value) (t:TypeId):∀j u,[x0,x1,x2,x3][j]? = some u→(W.alloc (.cells #[x0,x1,x2,x3] t)).cell? ((⟨W.heap.size,0,none⟩:Addr).add j)=some u:=by
 intro j u hu
 match j,hu with
 | 0,hu=>simp at hu;subst hu;show World.cell? _ ⟨W.heap.size,0,none⟩=_;go_cell
 | 1,hu=>simp at hu;subst hu;show World.cell? _ ⟨W.heap.size,1,none⟩=_;go_cell
 | 2,hu=>simp at hu;subst hu;show World.cell? _ ⟨W.heap.size,2,none⟩=_;go_cell
 | 3,hu=>simp at hu;subst hu;show World.cell? _ ⟨W.heap.size,3,none⟩=_;go_cell
 | n+4,hu=>simp at hu
theorem Jo {w:World} {base:Nat} {e:TypeId} {v:Value} {l:List PastM} (h:w.ownsRow base e 4 v l.length (l.flatMap QK)):∃a c,v=.slice a l.length c∧l.length≤c∧qh w 4 QK a l:=by
 obtain ⟨hl,⟨rfl,h0⟩ | ⟨g,cap,cur,rfl,hb,hg,h1,h2,h3,h4⟩⟩:=h
 ·refine ⟨none,0,by rw [h0],by omega,fun hn=>by omega⟩
 ·refine ⟨_,cap,rfl,h1,fun hn=>⟨g,0,rfl,fun i x hx j v hv=>?_⟩⟩
  have hj:j < 4:=by
   have:=(List.getElem?_eq_some_iff.1 hv).1
   simpa [QK] using this
  obtain ⟨hi,rfl⟩:=List.getElem?_eq_some_iff.1 hx
  have e:(l.flatMap QK)[i * 4+j]? = some v:=by
   clear h4 hb hg h1 h2 h3 hl hx hn
   induction l generalizing i with
   | nil=>simp at hi
   | cons y l ih =>
     rw [List.flatMap_cons]
     cases i with
     | zero =>
       rw [List.getElem?_append_left (by simp [QK];omega)]
       simpa using hv
     | succ i =>
       rw [List.getElem?_append_right (by simp [QK];omega)]
       have e:(i+1) * 4+j - (QK y).length=i * 4+j:=by simp [QK];omega
       rw [e]
       exact ih i (by simpa using hi) (by simpa using hv)
  rw [← h4,List.getElem?_take] at e
  split at e
  ·simp only [World.cell?,hg]
   simpa using e
  ·cases e
structure HJ (D:DayM) (M:Nat) (A0:Nat→Prop) (w0 w:World) (r:Loop) (outs:List PastM) (W:World):Prop where
 ex:∃v,St D M (fun b=>A0 b∨(w.heap.size≤b∧b < w.heap.size+8)∨v.ownBlock=some b) w0 W∧W.cell? ⟨w.heap.size+1,0,none⟩=some v∧W.frozen? ⟨w.heap.size+1,0,none⟩=false∧W.ownsRow (w.heap.size+8) 82 4 v outs.length (outs.flatMap QK)
 rl:W.heap[w.heap.size+3]? = some (.loop r)
 rd:W.heap[w.heap.size+2]? = some (.deferred (some []))
 gr:w.grownBy W (some M)
section
variable {D:DayM} {M:Nat} {A0:Nat→Prop} {w0 w:World} {r:Loop} {outs:List PastM} {W W1:World}
theorem HJ.mod {S:Nat→Prop} (h:HJ D M A0 w0 w r outs W) (hM:M < w.heap.size) (hm:Mod S W W1) (hs:∀b,S b→b=w.heap.size+6) (h0:w0.heap.size≤w.heap.size):HJ D M A0 w0 w r outs W1:=by
 obtain ⟨⟨v,h1,h2,h3,h4⟩,rl,rd,gr⟩:=h
 have lr:=(Array.getElem?_eq_some_iff.1 rl).1
 refine ⟨⟨v,h1.mod hm (fun b hb=>by have:=hs b hb;subst this;exact ⟨.inr (.inl ⟨by omega,by omega⟩),by omega,by omega⟩) (fun b hb=>.inl hb),hm.cell h2 (fun e=>by have:=hs _ e;simp only at this;omega),(hm.frozen h2 (fun e=>by have:=hs _ e;simp only at this;omega)).trans h3,hm.owns h4 (fun b hb e=>by have:=(h4.lt b hb).1;have:=hs _ e;omega)⟩,?_,?_,?_⟩
 ·exact (hm.block _ lr (fun e=>by have:=hs _ e;omega)).trans rl
 ·exact (hm.block _ (by omega) (fun e=>by have:=hs _ e;omega)).trans rd
 ·exact qdq gr (hm.toT (r:=some (w.heap.size+6)) (fun b _ hb=>by rw [hs b hb])) (fun b e=>by cases e;omega)
end
theorem Yh:∀(gs:List GrpM) (i:Nat) (p:PastM),(∀g∈gs,g.hi - g.lo < 3)→(za gs i p).length≤3 ^ gs.length
 | [],_,_,_=>Nat.le_refl _
 | g :: gs,i,p,h=>by
   unfold za
   have h1:=h g (List.mem_cons_self)
   have hl:(QF g.lo g.hi).length≤3:=by unfold QF;simp;omega
   have e:∀l:List Int,(l.flatMap fun n=>za gs (i+1) (p.set i n)).length≤l.length * 3 ^ gs.length:=by
    intro l
    induction l with
    | nil=>simp
    | cons n l ih =>
      rw [List.flatMap_cons,List.length_append,List.length_cons,Nat.add_mul,Nat.one_mul]
      have:=Yh gs (i+1) (p.set i n) (fun g hg=>h g (List.mem_cons_of_mem _ hg))
      omega
   refine Nat.le_trans (e _) ?_
   rw [List.length_cons,Nat.pow_succ,Nat.mul_comm (3 ^ gs.length)]
   exact Nat.mul_le_mul_right _ hl
theorem qN {D:DayM} (hz:checkN D=0):(qo D).length≤81:=by
 have h:=Yh D.gs 0 ⟨0,0,0,0⟩ (fun g hg=>(QP D hz g hg).2.2.2)
 have h4:=(zF D hz).gs
 have h3:3 ^ D.gs.length≤3 ^ 4:=Nat.pow_le_pow_right (by decide) h4
 have hf:=List.length_filter_le (zO D) (za D.gs 0 ⟨0,0,0,0⟩)
 unfold qo
 omega
section
variable {D:DayM} {M:Nat} {A0:Nat→Prop} {w0 w:World} {r:Loop} {outs:List PastM} {W W1:World}
theorem HJ.right (h:HJ D M A0 w0 w r outs W) (hA:∀b,A0 b→b < w.heap.size) (hM:M < w.heap.size) (q:PastM) (hq:q.ok) (hsz:w.heap.size+8≤W.heap.size) :
 Calls qj 125 #[dm D (some M),pvP q] W fun e W'=>e=.returned (.bool (zO D q))∧HJ D M A0 w0 w r outs W'∧∀b,w.heap.size+4≤b→b < w.heap.size+8→W'.heap[b]? = W.heap[b]? := by
 obtain ⟨⟨v,h1,h2,h3,h4⟩,rl,rd,gr⟩:=h
 refine (qet D M _ w0 W h1 q hq (fun b hb=>?_)).mono ?_
 ·rcases hb with hb | hb | hb
  ·have:=hA b hb;omega
  ·omega
  ·exact (h4.lt b hb).2
 ·rintro e W' ⟨he,hst,hg⟩
  have hm:Mod (fun b=>b=M) W W':=Mod.grown hg (fun b e=>(Option.some.inj e).symm)
  have lr:=(Array.getElem?_eq_some_iff.1 rl).1
  refine ⟨he,⟨⟨v,hst,hm.cell h2 (by simp only;omega),(hm.frozen h2 (by simp only;omega)).trans h3,hm.owns h4 (fun b hb e=>by have:=(h4.lt b hb).1;omega)⟩,(hm.block _ lr (by omega)).trans rl,(hm.block _ (by omega) (by omega)).trans rd,ql gr hg⟩,fun b h5 h6=>hm.block b (by omega) (by omega)⟩
end
set_option maxHeartbeats 4000000 in
set_option maxRecDepth 100000 in
theorem Yc (D:DayM) (M:Nat) (A0:Nat→Prop) (w0 w:World) (h:St D M A0 w0 w) (hA:∀b,A0 b→b < w.heap.size) (hz:checkN D=0) :
 Calls qj 67 #[dm D (some M)] w fun e w'=>∃a c,e=.returned (.slice a (qo D).length c)∧(qo D).length≤c∧qh w' 4 QK a (qo D)∧(∀p,a=some p→w.heap.size≤p.block)∧St D M A0 w0 w'∧w.grownBy w' (some M):=by
 have hml:=h.kn.lt
 have hw0:=h.bel.size
 have hM0:=h.le
 have HST:=Lib.hid h
 have HA:=Lib.hid hA
 have HZ:=Lib.hid hz
 clear h hA hz
 unfold dm
 refine callsIn_wide.1 (callsIn_of_wp_marks (n:=2) (sf 67 f67) rfl trivial (wpIn_wide.2 ?_) rfl)
 simp only [ntmps67,List.size_toArray,List.length_cons,List.length_nil,Nat.reduceAdd,Nat.reduceSub,Array.replicate_succ,Array.replicate_zero,List.push_toArray,List.append_toArray,List.nil_append,List.cons_append]
 go_wp2
 refine (wpIn_wide (n:=2)).1 ?_
 refine qbs (gf:=101) (rcv:=#[dm D (some M)]) (lb:=#[]) rfl (cE 101 (by decide +kernel)) ?_
 intro r e1 e2 e3 e4 e5 e6 W1 hW1
 simp only [World.size_alloc] at hW1 ⊢
 have hs1:W1.heap.size=w.heap.size+4:=by rw [hW1];simp
 have hB1:Below w.heap.size w W1:=by rw [hW1];go_grown
 have hJ0:HJ D M A0 w0 w r [] W1:=by
  refine ⟨⟨.slice none 0 0,(HST.out.mod (S:=fun _=>False) (Mod.refl _ _) (fun _ e=>e.elim) (fun b hb=>?_)).keep hB1,?_,?_,World.ownsRow_nil _ _ _ _⟩,?_,?_,qi hB1⟩
  ·rcases hb with hb | hb | hb
   ·exact .inl hb
   ·exact .inr hb.1
   ·cases hb
  ·rw [hW1];go_cell
  ·rw [hW1];go_cell
  ·rw [hW1]
   have e:=World.alloc_heap_new (((w.alloc (Obj.cells #[.slice D.ta D.ts.length D.tc,.slice D.ga D.gs.length D.gc,.slice D.oa D.os.length D.oc,.slice D.ha D.hs.length D.hc,.slice D.ca D.cs.length D.cc,.map (some M)] 74)).alloc (Obj.cells #[.slice none 0 0] 75)).alloc (.deferred (some []))) (.loop r)
   simpa using e
  ·rw [hW1]
   have e:=World.alloc_heap_new ((w.alloc (Obj.cells #[.slice D.ta D.ts.length D.tc,.slice D.ga D.gs.length D.gc,.slice D.oa D.os.length D.oc,.slice D.ha D.hs.length D.hc,.slice D.ca D.cs.length D.cc,.map (some M)] 74)).alloc (Obj.cells #[.slice none 0 0] 75)) (.deferred (some []))
   refine (Below.heap_alloc _ _ _ (by simp)).trans ?_
   simpa using e
 refine (qem (D:=D) (M:=M) (l:=w.heap.size+3) (J:=HJ D M A0 w0 w r) W1 (w.heap.size+4) hs1 (zF D HZ.out).gs HST.out.sm.gs.2 (fun g hg=>⟨(QP D HZ.out g hg).1,(QP D HZ.out g hg).2.1,(QP D HZ.out g hg).2.2.1⟩) (fun o W hJ=>by obtain ⟨⟨v,hv,_⟩,_⟩:=hJ;exact hv.day.gs) (fun o W q hJ hsz hq=>HJ.right hJ HA.out hml q hq (by omega)) (fun o W W1 hJ hB=>HJ.mod hJ hml (S:=fun _=>False) (Mod.below hB) (fun _ e=>e.elim) (by omega)) (fun o W i n hJ hsz=>HJ.mod hJ hml (S:=fun b=>b=w.heap.size+6) (Mod.grown (yJ W _ _) (fun b e=>(Option.some.inj e).symm)) (fun b e=>e) (by omega)) ?_ hJ0).mono ?_
 ·intro o W q hJ hol hN hq hrb
  obtain ⟨⟨v,h1,h2,h3,h4⟩,rl,rd,gr⟩:=id hJ
  have h8:w.heap.size+8≤W.heap.size:=by have:=lt_of_cell hN.n;simp only at this;omega
  refine qbu rl e3 e1 e2 ?_
  rw [e5,e6,e4]
  simp only [List.setIfInBounds_toArray,List.set_cons_zero,List.set_cons_succ]
  unfold pvP
  gi_wp2
  have hlr:=(Array.getElem?_eq_some_iff.1 rl).1
  obtain ⟨Wa,hWa⟩:∃Wa,W.alloc (Obj.cells #[.int .i64 q.a,.int .i64 q.b,.int .i64 q.c,.int .i64 q.d] 82)=Wa:=⟨_,rfl⟩
  have hBa:Below W.heap.size W Wa:=by subst hWa;go_grown
  have p0:Wa.cell? ⟨W.heap.size,0,none⟩=some (.int .i64 q.a):=by subst hWa;go_cell
  have p1:Wa.cell? ⟨W.heap.size,1,none⟩=some (.int .i64 q.b):=by subst hWa;go_cell
  have p2:Wa.cell? ⟨W.heap.size,2,none⟩=some (.int .i64 q.c):=by subst hWa;go_cell
  have p3:Wa.cell? ⟨W.heap.size,3,none⟩=some (.int .i64 q.d):=by subst hWa;go_cell
  rw [hWa]
  refine ⟨(hBa.block _ hlr).trans rl,?_⟩
  have hma:Mod (fun b=>b=w.heap.size+3) Wa (Wa.putObj (w.heap.size+3) (.loop (ZM r))):=Mod.grown (grownBy_putObj' _ _ _) (fun b e=>(Option.some.inj e).symm)
  have hl2:(Wa.putObj (w.heap.size+3) (.loop (ZM r))).heap[w.heap.size+3]? = some (.loop (ZM r)):=World.putObj_heap_same (by have:=hBa.size;omega)
  obtain ⟨W2,hW2⟩:∃W2,Wa.putObj (w.heap.size+3) (.loop (ZM r))=W2:=⟨_,rfl⟩
  rw [hW2] at hma hl2 ⊢
  have hm2:Mod (fun b=>b=w.heap.size+3) W W2:=(Mod.below hBa).trans hma
  have k1:=hm2.cell h2 (by simp only;omega)
  have f1:=(hm2.frozen h2 (by simp only;omega)).trans h3
  have q0:=hma.cell p0 (by simp only;omega)
  have q1:=hma.cell p1 (by simp only;omega)
  have q2:=hma.cell p2 (by simp only;omega)
  have q3:=hma.cell p3 (by simp only;omega)
  have o2:=hm2.owns h4 (fun b hb e=>by have:=(h4.lt b hb).1;omega)
  have hs2:=hm2.size
  have hlen:=qN HZ.out
  obtain ⟨i0,hi,hz0,hz1,hz2⟩:=info_parts qbR
  clear p0 p1 p2 p3 hWa hBa hma hW2 hJ0 hW1 hB1 hJ e5 e6 e4
  gi_wp2_with (gi_at_builtin;refine wpListIn_append_own_at _ rfl (.tmp 8) (.tmp 10) 75 rfl (w.heap.size+8) 82 i0 (.agg #[.int .i64 0,.int .i64 0,.int .i64 0,.int .i64 0]) 4 32 ((qy _).trans Tryz.underlying75) hi hz0 hz1 hz2 rfl (by decide) _ _ _ rfl (o2.alloc _) ⟨W2.heap.size,0,none⟩ 1 1 (QK q) rfl rfl (Xh _ _ _ _ _ _) (past_one q) (by unfold maxLen;omega) (by omega) (by simp;omega) ?_;intro v1 w3 n1 g1 nil1 at1;obtain ⟨g',cap',rfl⟩:=ownsRow_succ n1;have k2:=g1.cell (qb _ ((Below.refl _ W2).alloc (Nat.le_refl _) _) k1) (fun e=>by have:=(h4.lt _ e.symm).1;simp only at this;omega);have f2:=(g1.frozen_far ⟨w.heap.size+1,0,none⟩ (lt_of_cell (qb _ ((Below.refl _ W2).alloc (Nat.le_refl _) _) k1)) (fun e=>by have:=(h4.lt _ e.symm).1;simp only at this;omega)).trans (qd _ ((Below.refl _ W2).alloc (Nat.le_refl _) _) k1 f1))
  obtain ⟨W3a,hW3a⟩:∃X,X=W2.heap.size:=⟨_,rfl⟩
  have hw3:W2.heap.size≤w3.heap.size:=by have:=g1.size;simp at this;omega
  have hm24:Mod (fun b=>b=w.heap.size+1∨v.ownBlock=some b) W2 (w3.setCell ⟨w.heap.size+1,0,none⟩ (.slice (some ⟨g',0,none⟩) (o.length+1) cap')):=((Mod.below ((Below.refl _ W2).alloc (Nat.le_refl _) _)).trans (Mod.grown g1 (fun b e=>.inr e))).trans (Mod.grown (yJ _ _ _) (fun b e=>.inl (Option.some.inj e).symm))
  have hv3:v.ownBlock≠some (w.heap.size+3):=fun e=>by have:=(h4.lt _ e).1;omega
  have hb4:=(hm24.block _ (Array.getElem?_eq_some_iff.1 hl2).1 (by rintro (e | e);omega;exact hv3 e)).trans hl2
  have hn3:=n1.lt g' rfl
  have c4:(w3.setCell ⟨w.heap.size+1,0,none⟩ (.slice (some ⟨g',0,none⟩) (o.length+1) cap')).cell? ⟨w.heap.size+1,0,none⟩=some (.slice (some ⟨g',0,none⟩) (o.length+1) cap'):=qp (qz k2)
  have f4:(w3.setCell ⟨w.heap.size+1,0,none⟩ (.slice (some ⟨g',0,none⟩) (o.length+1) cap')).frozen? ⟨w.heap.size+1,0,none⟩=false:=by simpa using f2
  have o4:=n1.kept (yJ w3 ⟨w.heap.size+1,0,none⟩ (.slice (some ⟨g',0,none⟩) (o.length+1) cap')) (.inr (by intro e;have e2:g'=w.heap.size+1:=Option.some.inj e;omega))
  obtain ⟨W4,hW4⟩:∃W4,w3.setCell ⟨w.heap.size+1,0,none⟩ (.slice (some ⟨g',0,none⟩) (o.length+1) cap')=W4:=⟨_,rfl⟩
  rw [hW4] at hm24 hb4 c4 f4 o4 ⊢
  have hmp:Mod (fun b=>b=w.heap.size+3) W4 (W4.putObj (w.heap.size+3) (.loop r)):=Mod.grown (grownBy_putObj' _ _ _) (fun b e=>(Option.some.inj e).symm)
  have hm5:Mod (fun b=>b=w.heap.size+3∨b=w.heap.size+1∨v.ownBlock=some b) W (W4.putObj (w.heap.size+3) (.loop r)):=((hm2.mono (fun b e=>.inl e)).trans (hm24.mono (fun b e=>.inr e))).trans (hmp.mono (fun b e=>.inl e))
  have hvb:∀b,v.ownBlock=some b→w.heap.size+8≤b:=fun b e=>(h4.lt b e).1
  refine ⟨hb4,rfl,⟨⟨.slice (some ⟨g',0,none⟩) (o.length+1) cap',h1.mod hm5 (fun b hb=>?_) (fun b hb=>?_),hmp.cell c4 (by simp only;omega),(hmp.frozen c4 (by simp only;omega)).trans f4,?_⟩,World.putObj_heap_same (Array.getElem?_eq_some_iff.1 hb4).1,(hm5.block _ (Array.getElem?_eq_some_iff.1 rd).1 ?_).trans rd,zC gr hm5 (fun b hb=>?_)⟩,fun b h5 h6=>hm5.block b (by omega) ?_⟩
  ·rcases hb with rfl | rfl | hb
   ·exact ⟨.inr (.inl ⟨by omega,by omega⟩),by omega,by omega⟩
   ·exact ⟨.inr (.inl ⟨by omega,by omega⟩),by omega,by omega⟩
   ·have:=hvb b hb;exact ⟨.inr (.inr hb),by omega,by omega⟩
  ·rcases hb with hb | hb | hb
   ·exact .inl (.inl hb)
   ·exact .inl (.inr (.inl hb))
   ·rcases at1 with at1 | at1
    ·exact .inl (.inr (.inr (at1.symm.trans hb)))
    ·rw [at1] at hb;have:=Option.some.inj hb;simp at this;exact .inr (by omega)
  ·rw [List.length_append,List.flatMap_append,List.flatMap_cons,List.flatMap_nil,List.append_nil]
   exact hmp.owns o4 (fun b hb e=>by have hb2:g'=b:=Option.some.inj hb;omega)
  ·rintro (e | e | e)
   ·omega
   ·omega
   ·have:=hvb _ e;omega
  ·rcases hb with rfl | rfl | hb
   ·omega
   ·omega
   ·have:=hvb b hb;omega
  ·rintro (e | e | e)
   ·omega
   ·omega
   ·have:=hvb _ e;omega
 ·rintro e W ⟨⟨v,rfl⟩,hJ⟩
  obtain ⟨⟨v,h1,h2,h3,h4⟩,rl,rd,gr⟩:=id hJ
  refine ⟨⟨_,rfl⟩,.inl ⟨rl,?_⟩⟩
  have hlr:=(Array.getElem?_eq_some_iff.1 rl).1
  have hm:Mod (fun b=>w.heap.size+2≤b∧b < w.heap.size+4) W (W.putObj (w.heap.size+1+1+1) (.loop (qcf r))):=Mod.grown (grownBy_putObj' _ _ _) (fun b e=>by cases e;exact ⟨by omega,by omega⟩)
  have hrd:=(World.putObj_heap_other (w:=W) (o:=.loop (qcf r)) (show w.heap.size+2≠w.heap.size+1+1+1 by omega)).trans rd
  obtain ⟨W2,hW2⟩:∃W2,W.putObj (w.heap.size+1+1+1) (.loop (qcf r))=W2:=⟨_,rfl⟩
  rw [hW2] at hm hrd ⊢
  have k1:=hm.cell h2 (by simp only;omega)
  have hm2:Mod (fun b=>w.heap.size+2≤b∧b < w.heap.size+4) W (W2.putObj (w.heap.size+1+1) (.deferred none)):=hm.trans (Mod.grown (grownBy_putObj' _ _ _) (fun b e=>by cases e;exact ⟨by omega,by omega⟩))
  have hfin:St D M A0 w0 (W2.putObj (w.heap.size+1+1) (.deferred none)):=h1.mod hm2 (fun b hb=>⟨.inr (.inl ⟨by omega,by omega⟩),by omega,by omega⟩) (fun b hb=>.inl (.inl hb))
  have hfg:=zC gr hm2 (fun b hb=>by omega)
  have ho2:=hm2.owns h4 (fun b hb e=>by have:=(h4.lt b hb).1;omega)
  obtain ⟨a,c,rfl,hlc,hrow⟩:=Jo ho2
  have hfr:∀p,a=some p→w.heap.size≤p.block:=fun p e=>by subst e;have:=(ho2.lt p.block rfl).1;omega
  have HF:=Lib.hid (And.intro hfin (And.intro hfg (And.intro hlc (And.intro hrow hfr))))
  clear hm hm2 hfin hfg ho2 hlc hrow hfr hW2 h1 h2 h3 h4 rl rd gr hJ hJ0 e1 e2 e3 e4 e5 e6 hB1 hW1
  go_wp2
  refine ⟨by simp,.inl ⟨_,_,rfl,run_takeDeferred hrd,?_⟩⟩
  exact ⟨_,results_tmp rfl _ _ _,a,c,rfl,HF.out.2.2.1,HF.out.2.2.2.1,HF.out.2.2.2.2,HF.out.1,HF.out.2.1⟩
end Go.Proofs.Tryz
end
namespace Go.Proofs.Tryz
open Go Go.Shelf Go.Sort
def renS:Ren:=⟨fun | 189=>86 | 125=>115 | 257=>114 | 128=>136 | 129=>137 | 294=>127 | 295=>128 | 296=>129 | 297=>130 | 298=>131 | 299=>132 | 216=>133 | 300=>134 | 301=>135 | 328=>139 | 329=>140 | 330=>141 | 331=>142 | 332=>143 | 215=>144 | 343=>145 | n=>n,fun | 28=>31 | 3=>3 | 46=>84 | 0=>0 | 51=>168 | 53=>170 | 4=>4 | 183=>161 | 182=>160 | 131=>165 | 5=>5 | 9=>9 | 218=>172 | 222=>176 | 228=>178 | 229=>110 | n=>n,fun n=>n⟩
set_option maxRecDepth 100000 in
theorem laysS:Lays.n189 qj renS where
 mixed:=by kernel_rfl
 f125:=(sf 115 f115).trans (congrArg some (by kernel_rfl))
 f128:=(sf 136 f136).trans (congrArg some (by kernel_rfl))
 f129:=(sf 137 f137).trans (congrArg some (by kernel_rfl))
 f189:=(sf 86 f86).trans (congrArg some (by kernel_rfl))
 f215:=(sf 144 f144).trans (congrArg some (by kernel_rfl))
 f216:=(sf 133 f133).trans (congrArg some (by kernel_rfl))
 f257:=(sf 114 f114).trans (congrArg some (by kernel_rfl))
 f294:=(sf 127 f127).trans (congrArg some (by kernel_rfl))
 f295:=(sf 128 f128).trans (congrArg some (by kernel_rfl))
 f296:=(sf 129 f129).trans (congrArg some (by kernel_rfl))
 f297:=(sf 130 f130).trans (congrArg some (by kernel_rfl))
 f298:=(sf 131 f131).trans (congrArg some (by kernel_rfl))
 f299:=(sf 132 f132).trans (congrArg some (by kernel_rfl))
 f300:=(sf 134 f134).trans (congrArg some (by kernel_rfl))
 f301:=(sf 135 f135).trans (congrArg some (by kernel_rfl))
 f328:=(sf 139 f139).trans (congrArg some (by kernel_rfl))
 f329:=(sf 140 f140).trans (congrArg some (by kernel_rfl))
 f330:=(sf 141 f141).trans (congrArg some (by kernel_rfl))
 f331:=(sf 142 f142).trans (congrArg some (by kernel_rfl))
 f332:=(sf 143 f143).trans (congrArg some (by kernel_rfl))
 f343:=(sf 145 f145).trans (congrArg some (by kernel_rfl))
 t0:=(qy _).trans Tryz.underlying0
 a0:=fun w=>(qH _ w).trans (Tryz.isAgg0 w)
 z0:=fun w=>(qA _ w).trans (Tryz.sizeOf0 w)
 v0:=fun w=>(qw _ w).trans (Tryz.zeroValue0 w)
 t3:=(qy _).trans Tryz.underlying3
 a3:=fun w=>(qH _ w).trans (Tryz.isAgg3 w)
 z3:=fun w=>(qA _ w).trans (Tryz.sizeOf3 w)
 v3:=fun w=>(qw _ w).trans (Tryz.zeroValue3 w)
 t4:=(qy _).trans Tryz.underlying4
 a4:=fun w=>(qH _ w).trans (Tryz.isAgg4 w)
 z4:=fun w=>(qA _ w).trans (Tryz.sizeOf4 w)
 v4:=fun w=>(qw _ w).trans (Tryz.zeroValue4 w)
 t5:=(qy _).trans Tryz.underlying5
 a5:=fun w=>(qH _ w).trans (Tryz.isAgg5 w)
 z5:=fun w=>(qA _ w).trans (Tryz.sizeOf5 w)
 v5:=fun w=>(qw _ w).trans (Tryz.zeroValue5 w)
 t9:=(qy _).trans Tryz.underlying9
 a9:=fun w=>(qH _ w).trans (Tryz.isAgg9 w)
 z9:=fun w=>(qA _ w).trans (Tryz.sizeOf9 w)
 v9:=fun w=>(qw _ w).trans (Tryz.zeroValue9 w)
 t28:=(qy _).trans Tryz.underlying31
 a28:=fun w=>(qH _ w).trans (Tryz.isAgg31 w)
 z28:=fun w=>(qA _ w).trans (Tryz.sizeOf31 w)
 v28:=fun w=>(qw _ w).trans (Tryz.zeroValue31 w)
 t46:=(qy _).trans Tryz.underlying84
 a46:=fun w=>(qH _ w).trans (Tryz.isAgg84 w)
 z46:=fun w=>(qA _ w).trans (Tryz.sizeOf84 w)
 v46:=fun w=>(qw _ w).trans (Tryz.zeroValue84 w)
 t51:=(qy _).trans Tryz.underlying168
 a51:=fun w=>(qH _ w).trans (Tryz.isAgg168 w)
 z51:=fun w=>(qA _ w).trans (Tryz.sizeOf168 w)
 v51:=fun w=>(qw _ w).trans (Tryz.zeroValue168 w)
 t53:=(qy _).trans Tryz.underlying170
 a53:=fun w=>(qH _ w).trans (Tryz.isAgg170 w)
 z53:=fun w=>(qA _ w).trans (Tryz.sizeOf170 w)
 v53:=fun w=>(qw _ w).trans (Tryz.zeroValue170 w)
 t131:=(qy _).trans Tryz.underlying165
 a131:=fun w=>(qH _ w).trans (Tryz.isAgg165 w)
 z131:=fun w=>(qA _ w).trans (Tryz.sizeOf165 w)
 v131:=fun w=>(qw _ w).trans (Tryz.zeroValue165 w)
 t182:=(qy _).trans Tryz.underlying160
 a182:=fun w=>(qH _ w).trans (Tryz.isAgg160 w)
 z182:=fun w=>(qA _ w).trans (Tryz.sizeOf160 w)
 v182:=fun w=>(qw _ w).trans (Tryz.zeroValue160 w)
 t183:=(qy _).trans Tryz.underlying161
 a183:=fun w=>(qH _ w).trans (Tryz.isAgg161 w)
 z183:=fun w=>(qA _ w).trans (Tryz.sizeOf161 w)
 v183:=fun w=>(qw _ w).trans (Tryz.zeroValue161 w)
 t218:=(qy _).trans Tryz.underlying172
 a218:=fun w=>(qH _ w).trans (Tryz.isAgg172 w)
 z218:=fun w=>(qA _ w).trans (Tryz.sizeOf172 w)
 v218:=fun w=>(qw _ w).trans (Tryz.zeroValue172 w)
 t222:=(qy _).trans Tryz.underlying176
 a222:=fun w=>(qH _ w).trans (Tryz.isAgg176 w)
 z222:=fun w=>(qA _ w).trans (Tryz.sizeOf176 w)
 v222:=fun w=>(qw _ w).trans (Tryz.zeroValue176 w)
 t228:=(qy _).trans Tryz.underlying178
 a228:=fun w=>(qH _ w).trans (Tryz.isAgg178 w)
 z228:=fun w=>(qA _ w).trans (Tryz.sizeOf178 w)
 v228:=fun w=>(qw _ w).trans (Tryz.zeroValue178 w)
 t229:=(qy _).trans Tryz.underlying110
 a229:=fun w=>(qH _ w).trans (Tryz.isAgg110 w)
 z229:=fun w=>(qA _ w).trans (Tryz.sizeOf110 w)
 v229:=fun w=>(qw _ w).trans (Tryz.zeroValue110 w)
def renC:Ren:=⟨fun | 20=>87 | n=>n,fun | 22=>31 | 3=>3 | 4=>4 | 0=>0 | n=>n,fun n=>n⟩
set_option maxRecDepth 100000 in
theorem laysC:Lays2.n20 qj renC where
 mixed:=by kernel_rfl
 f20:=(sf 87 f87).trans (congrArg some (by kernel_rfl))
 t0:=(qy _).trans Tryz.underlying0
 a0:=fun w=>(qH _ w).trans (Tryz.isAgg0 w)
 z0:=fun w=>(qA _ w).trans (Tryz.sizeOf0 w)
 v0:=fun w=>(qw _ w).trans (Tryz.zeroValue0 w)
 t3:=(qy _).trans Tryz.underlying3
 a3:=fun w=>(qH _ w).trans (Tryz.isAgg3 w)
 z3:=fun w=>(qA _ w).trans (Tryz.sizeOf3 w)
 v3:=fun w=>(qw _ w).trans (Tryz.zeroValue3 w)
 t4:=(qy _).trans Tryz.underlying4
 a4:=fun w=>(qH _ w).trans (Tryz.isAgg4 w)
 z4:=fun w=>(qA _ w).trans (Tryz.sizeOf4 w)
 v4:=fun w=>(qw _ w).trans (Tryz.zeroValue4 w)
 t22:=(qy _).trans Tryz.underlying31
 a22:=fun w=>(qH _ w).trans (Tryz.isAgg31 w)
 z22:=fun w=>(qA _ w).trans (Tryz.sizeOf31 w)
 v22:=fun w=>(qw _ w).trans (Tryz.zeroValue31 w)
 i3:=by kernel_rfl
theorem sort_run (blk off cap:Nat) (zs:List Int) (w:World) (hH:Holds (Value.int .i64) w blk off zs.toArray) (hblk:blk < w.heap.size) (hsz:zs.length < 4611686018427387904) :
 Calls qj 86 #[.slice (some ⟨blk,off,none⟩) zs.length cap] w fun e w'=>e=.returned (.tuple #[])∧∃n os,w'=grow (putRow (Value.int .i64) (Sort.ahead w n) blk off (zs.mergeSort fun x y=>decide (x≤y)).toArray) os:=Any.slices_Sort_int laysS blk off cap zs w hH hblk hsz
theorem JN (blk off cap:Nat) (zs:List Int) (w:World) (hH:Holds (Value.int .i64) w blk off zs.toArray) (hsz:zs.length≤9223372036854775807) (hcap:zs.length≤cap) :
 Calls qj 87 #[.slice (some ⟨blk,off,none⟩) zs.length cap] w fun e w'=>e=.returned (.slice (some ⟨blk,off,none⟩) (Lib.compact zs).length cap)∧∃q,w'=putRow (Value.int .i64) (Sort.ahead w q) blk off (Lib.compact zs ++ List.replicate (zs.length - (Lib.compact zs).length) 0).toArray:=Any.slices_Compact_int laysC blk off cap zs w hH hsz hcap
end Go.Proofs.Tryz
namespace Go.Proofs.Tryz
open Go Go.Load Go.LoadR Go.RowKit Go.Maps
theorem Yd:(qj.info? 3).map (fun i=>(i.zero,i.size,i.bytes))=some (some (.int .i64 0),1,8):=by kernel_rfl
theorem Zz (z:Int):∀u∈[Value.int .i64 z],u.oneCell'=true:=by intro u hu;simp at hu;subst hu;rfl
def zm (l:List Int):List Int:=Lib.compact (l.mergeSort fun x y=>decide (x≤y))
theorem ZQ (l:List Int):(Lib.compact l).length≤l.length:=by
 unfold Lib.compact Lib.compactUpTo
 rw [List.length_map]
 exact Nat.le_trans (List.length_filter_le _ _) (by simp)
theorem Qa {w:World} {base:Nat} {e:TypeId} {v:Value} {n:Nat} {l:List Int} (h:w.ownsRow base e 1 v n (l.map (.int .i64))):∃a c,v=.slice a n c∧n≤c∧qh w 1 encI a l:=by
 obtain ⟨a,c,e,hl,r⟩:=Qq h
 refine ⟨a,c,e,hl,fun hn=>?_⟩
 obtain ⟨x,hx⟩:∃x,l[0]? = some x:=⟨l[0],by simp⟩
 obtain ⟨g,rfl,_⟩:=r 0 (.int .i64 x) (by simp [hx])
 refine ⟨g,0,rfl,fun i y hy j v hv=>?_⟩
 obtain ⟨g',e',h'⟩:=r i (.int .i64 y) (by simp [hy])
 cases e'
 cases j with
 | zero=>simp [encI] at hv;subst hv;simpa using h'
 | succ j=>simp [encI] at hv
theorem qcg {w w1:World} {M base e size n:Nat} {v:Value} {xs:List Value} (h:w.ownsRow base e size v n xs) (hg:w.grownBy w1 (some M)) (hM:M < base):w1.ownsRow base e size v n xs:=h.kept hg (by
 cases hv:v.ownBlock with
 | none=>exact .inl rfl
 | some b=>right;intro e;have:=(h.lt b hv).1;cases e;omega)
set_option maxHeartbeats 4000000 in
set_option maxRecDepth 100000 in
theorem QO (D:DayM) (M:Nat) (A0:Nat→Prop) (w0 w:World) (h:St D M A0 w0 w) (hA:∀b,A0 b→b < w.heap.size) (fid:FuncId) (bound:Array Value) (hf:∀(args:Array Value) (w:World),(callFunc fid args).run qj w=.ok (.enter fid args) w) (f:PastM→Int) (l:List PastM) (a:Option Addr) (c:Nat) (hne:0 < l.length) (hlen:l.length≤1000) (hlc:l.length≤c) (hr:qh w 4 QK a l)
 (hcall:∀x∈l,∀A W,St D M A w0 W→(∀b,A b→b < W.heap.size)→w.grownBy W (some M)→Calls qj fid (#[pvP x] ++ bound) W fun e w'=>e=.returned (.int .i64 (f x))∧St D M A w0 w'∧W.grownBy w' (some M)) :
 Calls qj 36 #[.slice a l.length c,.func (.func fid) #[] bound] w fun e w'=>∃a' c',e=.returned (.slice a' (zm (l.map f)).length c')∧(zm (l.map f)).length≤c'∧qh w' 1 encI a' (zm (l.map f))∧(∀p,a'=some p→w.heap.size≤p.block)∧St D M A0 w0 w'∧w.grownBy w' (some M):=by
 obtain ⟨i0,hi,hz0,hz1,hz2⟩:=info_parts Yd
 have hml:=h.kn.lt
 have hw0:=h.bel.size
 have hM0:=h.le
 go_enter (sf 36 f36),ntmps36
 go_wp2
 go_loopw [10,5] (fun i u wr=>∃(k:Nat) (q:Value),i=.int .i64 k∧q=u∧k≤l.length∧St D M (fun b=>A0 b∨q.ownBlock=some b) w0 wr∧w.grownBy wr (some M)∧wr.ownsRow w.heap.size 3 1 q k ((l.take k).map fun x=>.int .i64 (f x))) (fun i _ _=>l.length - (intOf i).toNat)
 case atStart=>exact ⟨0,_,rfl,rfl,Nat.zero_le _,h.own (r:=none) (qi (Below.refl _ _)) (fun _ e=>by cases e) (fun b hb=>by rcases hb with hb | hb;exact .inl hb;cases hb),qi (Below.refl _ _),World.ownsRow_nil _ _ _ _⟩
 case round =>
  obtain ⟨k,q,rfl,rfl,hk,hst,hg,ho⟩:=hrel
  have hRr:=h.rows hg hr
  have hsz:=hg.size
  by_cases hlt:k < l.length
  ·obtain ⟨b,o,rfl,hP⟩:=hRr (by omega)
   obtain ⟨x,hx⟩:∃x,l[k]? = some x:=⟨l[k],by simp [hlt]⟩
   have c0:=hP k x hx 0 _ rfl
   have c1:=hP k x hx 1 _ rfl
   have c2:=hP k x hx 2 _ rfl
   have c3:=hP k x hx 3 _ rfl
   simp only [Nat.add_zero] at c0
   have hkc:(k:Int)≤(c:Int):=by omega
   have hqb:∀b,q.ownBlock=some b→w.heap.size≤b∧b < wr.heap.size:=fun b hb=>ho.lt b hb
   have hcl:=fun W (hB:Below wr.heap.size wr W)=>hcall x (List.mem_of_getElem? hx) (fun b=>A0 b∨q.ownBlock=some b) W (hst.keep hB) (fun b hb=>by
    have:=hB.size
    rcases hb with hb | hb
    ·have:=hA b hb;omega
    ·have:=(hqb b hb).2;omega) (ql hg (qi hB))
   have HX:=Lib.hid hx
   have HC:=Lib.hid hcall
   have HR:=Lib.hid hr
   have HST:=Lib.hid hst
   have HG:=Lib.hid hg
   have HO:=Lib.hid ho
   have HA:=Lib.hid hA
   clear hP hx hcall hRr hr hst hg ho hA
   unfold pvP at hcl
   obtain ⟨args,hargs⟩:∃args,(#[.agg #[.int .i64 x.a,.int .i64 x.b,.int .i64 x.c,.int .i64 x.d]] ++ bound)=args:=⟨_,rfl⟩
   rw [hargs] at hcl
   have HCL:=Lib.hid hcl
   clear hcl
   go_wp2_with (first | (at_builtin;refine wpList_append_own_at _ rfl (.tmp 14) (.tmp 18) 31 rfl w.heap.size 3 i0 (.int .i64 0) 1 8 ((qy _).trans Tryz.underlying31) hi hz0 hz1 hz2 rfl (by decide) _ _ _ rfl (ow1.alloc _) ⟨w1.heap.size,0,none⟩ 1 1 [.int .i64 (f x)] rfl rfl (cell_one_new _ _ _) (Zz (f x)) (by unfold maxLen;omega) (by omega) (by simp;omega) ?_;intro v1 w3 n1 g1 nil1 at1) | ((first | (rw [hargs]) | skip);(with_reducible refine (HCL.out _ (by go_grown)).mono ?_);rintro e w1 ⟨rfl,hst1,hg1⟩;have ow1:=qcg (yn HO.out (by go_grown)) hg1 hml;have hz1w:=hg1.size;simp at hz1w;have hgw:=ql (qi (by go_grown)) hg1))
   have g2:(w1.alloc (.cells #[.int .i64 (f x)] 3)).grownBy w3 q.ownBlock:=g1
   have at2:v1.ownBlock=q.ownBlock∨v1.ownBlock=some (w1.alloc (.cells #[.int .i64 (f x)] 3)).heap.size:=at1
   clear g1 at1
   have hmm:Mod (fun b=>q.ownBlock=some b) w1 w3:=(Mod.below ((Below.refl _ w1).alloc (Nat.le_refl _) _)).trans (Mod.grown g2 (fun b e=>e))
   have hga:=ql (ql HG.out (qi (by go_grown))) hg1
   go_roundw
   case rel =>
    refine ⟨k+1,v1,rfl,rfl,by omega,hst1.mod hmm (fun b hb=>⟨.inr hb,by have:=(hqb b hb).1;omega,by have:=(hqb b hb).1;omega⟩) (fun b hb=>?_),zC hga hmm (fun b hb=>(hqb b hb).1),?_⟩
    ·rcases hb with hb | hb
     ·exact .inl (.inl hb)
     ·rcases at2 with at2 | at2
      ·exact .inl (.inr (at2.symm.trans hb))
      ·rw [at2] at hb;have:=Option.some.inj hb;simp at this;exact .inr (by omega)
    ·have e:(l.take (k+1)).map (fun x=>Value.int .i64 (f x))=(l.take k).map (fun x=>Value.int .i64 (f x)) ++ [.int .i64 (f x)]:=by
      rw [List.take_add_one,HX.out,List.map_append];rfl
     rw [e];exact n1
   case measure=>simp [intOf];omega
  ·obtain rfl:k=l.length:=by omega
   rw [List.take_length] at ho
   obtain ⟨hl1,⟨rfl,h0⟩ | ⟨g,cap,cur,rfl,hb,hgb,h1,h2,h3,h4⟩⟩:=id ho
   ·omega
   have hgl:=(Array.getElem?_eq_some_iff.1 hgb).1
   have hH:=holds_of_blockI (ss:=l.map f) hgb (by rw [Nat.mul_one] at h4;rw [List.length_map,h4,List.map_map];rfl)
   have hsr:=sort_run g 0 cap (l.map f) wr hH hgl (by simp;omega)
   have hlm:((l.map f).mergeSort fun x y=>decide (x≤y)).length=l.length:=by rw [List.length_mergeSort,List.length_map]
   have hcl:=ZQ ((l.map f).mergeSort fun x y=>decide (x≤y))
   have hcp:∀(n:Nat) (os:Array Obj),Calls qj 87 #[.slice (some ⟨g,0,none⟩) l.length cap] (Sort.grow (Sort.putRow (Value.int .i64) (Sort.ahead wr n) g 0 ((l.map f).mergeSort fun x y=>decide (x≤y)).toArray) os) fun e w'=>e=.returned (.slice (some ⟨g,0,none⟩) (zm (l.map f)).length cap)∧qh w' 1 encI (some ⟨g,0,none⟩) (zm (l.map f))∧St D M A0 w0 w'∧w.grownBy w' (some M):=by
    intro n os
    have hS:((l.map f).mergeSort fun x y=>decide (x≤y)).length=(l.map f).length:=List.length_mergeSort _
    have e1:=heap_sortedI (n:=n) (os:=os) ((l.map f).mergeSort fun x y=>decide (x≤y)).toArray hgb
    have e2:=take_putCellsI cur ((l.map f).mergeSort fun x y=>decide (x≤y)) (by rw [hS,List.length_map];omega)
    have g1:wr.grownBy _ (some g):=grownBy_sortedI (w:=wr) (g:=g) (n:=n) (os:=os) ((l.map f).mergeSort fun x y=>decide (x≤y)).toArray
    have hs1:(Sort.putCells (Value.int .i64) 0 ((l.map f).mergeSort fun x y=>decide (x≤y)).toArray cur).size=cap * 1:=by simp [Sort.putCells,h3]
    unfold zm
    have hlf:(l.map f).length=l.length:=List.length_map _
    rw [hlf] at hS
    clear hsr hH h4 hr hcall hRr ho
    generalize (l.map f).mergeSort (fun x y=>decide (x≤y))=Z at *
    generalize Sort.putCells (Value.int .i64) 0 Z.toArray cur=cur2 at *
    generalize Sort.grow (Sort.putRow (Value.int .i64) (Sort.ahead wr n) g 0 Z.toArray) os=W2 at *
    rw [← hS]
    refine (JN g 0 cap Z W2 (holds_of_blockI e1 e2) (by omega) (by omega)).mono ?_
    rintro e w' ⟨rfl,q,rfl⟩
    have hld:(Lib.compact Z ++ List.replicate (Z.length - (Lib.compact Z).length) 0).length=Z.length:=by rw [List.length_append,List.length_replicate];omega
    have o2:=ownsRow_sortedI (base:=w.heap.size) (n:=q) (os:=#[]) (ss:=Z) hld hb e1 (by omega) h2 hs1
    have g2:=grownBy_sortedI (w:=W2) (g:=g) (n:=q) (os:=#[]) (Lib.compact Z ++ List.replicate (Z.length - (Lib.compact Z).length) 0).toArray
    rw [Sort.grow_empty] at o2 g2
    have hm:Mod (fun b=>b=g) wr _:=(Mod.grown g1 (fun b e=>(Option.some.inj e).symm)).trans (Mod.grown g2 (fun b e=>(Option.some.inj e).symm))
    refine ⟨rfl,?_,hst.mod hm (fun b e=>⟨.inr (congrArg some e.symm),by omega,by omega⟩) (fun b hb=>.inl (.inl hb)),zC hg hm (fun b e=>by omega)⟩
    obtain ⟨a2,c2,e3,_,r3⟩:=Qa o2
    cases e3
    have r4:=r3.take (Lib.compact Z).length
    rwa [List.take_left] at r4
   have hgl2:(zm (l.map f)).length≤l.length:=by unfold zm;omega
   rw [List.length_map] at hsr
   generalize ((l.map f).mergeSort fun x y=>decide (x≤y)).toArray=S at *
   have HS:=Lib.hid hsr
   have HC:=Lib.hid hcp
   clear hsr hcp hst hg ho hr hcall hA hH h4 hRr
   go_wp2_with (first | (go_at_call 86;(with_reducible refine HS.out.mono ?_);rintro e w1 ⟨rfl,n,os,rfl⟩) | (go_at_call 87;(with_reducible refine (HC.out n os).mono ?_);rintro e w2 ⟨rfl,hrow,hst2,hg2⟩))
   go_ret
   exact ⟨_,cap,rfl,by omega,hrow,(fun p e=>by cases e;exact hb),hst2,hg2⟩
end Go.Proofs.Tryz
