/-
  Lemmas about the program and the machine (Q17 to D3), upon which the last text of this claim rests; no condition.
-/
import Derived.RangeFuncBox
import Derived.RangeFuncNested
import Derived.RangeFuncCalls
import Derived.RangeFuncLeaves
import Derived.OwnWalkIn
import Derived.TacticsInMore
import Derived.Maps.OwnIn
import Derived.Laws.EntriesVeiled
import Derived.Test.YtjkbbnphdbgjiaaGreatDoorE06
set_option linter.unusedSimpArgs false
set_option linter.unusedVariables false
set_option maxRecDepth 100000
set_option maxHeartbeats 4000000
namespace Go.Proofs.Tryz
open Go Go.Load Go.LoadR Go.RowKit
theorem agg_set(w:World):(isAgg 86).run qp w=.ok true w:=by kernel_rfl
theorem size_set(w:World):(Go.sizeOf 86).run qp w=.ok 9 w:=by kernel_rfl
def setOf(p:PastM):SetM:=⟨p,0,-1,0,0,0⟩
def pvP(p:PastM):Value:=.agg #[.int .i64 p.a,.int .i64 p.b,.int .i64 p.c,.int .i64 p.d]
theorem zX(p:PastM)(w:World):Calls qp 48 #[pvP p] w fun e w'=>e=.returned (zf (setOf p))/\Below w.heap.size w w':=by
 unfold pvP zf setOf;obtain⟨a,b,c,d⟩:=p;simp only;go_enter (sf 48 f48),ntmps48;go_wp2;refine bodyPost_ret (Zh results48 rfl (load_9 agg_set size_set (by go_cell) (by go_cell) (by go_cell) (by go_cell) (by go_cell) (by go_cell) (by go_cell) (by go_cell) (by go_cell))) rfl ⟨rfl,?_⟩;exact((Below.refl _ w).alloc ql _).alloc (by simp) _
structure St (D:DayM) (M:Nat) (A:Nat->Prop) (w0 w:World):Prop where
 bel:Below w0.heap.size w0 w
 le:w0.heap.size<=M
 at0:DayAt w0 D
 sm:DaySm D
 ok:DayOK D
 kn:KN D M A w
section
variable {D:DayM} {M:Nat} {A:Nat->Prop} {w0 w w1:World}
theorem St.day(h:St D M A w0 w):DayAt w D:=h.at0.keep h.bel
theorem St.keep(h:St D M A w0 w)(hB:Below w.heap.size w w1):St D M A w0 w1:=⟨bcl h.bel hB,h.le,h.at0,h.sm,h.ok,h.kn.keep hB⟩
theorem St.grown(h:St D M A w0 w)(hg:w.grownBy w1 (some M))(hk:KN D M A w1):St D M A w0 w1:=⟨below_grown h.bel ql hg h.le,h.le,h.at0,h.sm,h.ok,hk⟩
theorem St.cell(h:St D M A w0 w)(hg:w.grownBy w1 (some M)){p:Addr}{v:Value}(hc:w.cell? p=some v):w1.cell? p=some v:=by
 obtain⟨f,h1,_⟩:=h.kn;exact qZ hg hc (map_cell h1 hc)
theorem St.rows(h:St D M A w0 w)(hg:w.grownBy w1 (some M)){α:Type}{k:Nat}{enc:α->List Value}{a:Option Addr}{l:List α}(hr:qi w k enc a l):qi w1 k enc a l:=by
 obtain⟨f,h1,_⟩:=h.kn;exact Qn h1 hr hg
theorem St.own{A':Nat->Prop}{r:Option Nat}(h:St D M A w0 w)(hg:w.grownBy w1 r)(hr:∀b,r=some b->A b/\b≠M/\w0.heap.size<=b)(hA:∀b,A' b->A b\/w.heap.size<=b):St D M A' w0 w1 :=
 ⟨h.bel.grown hg h.bel.size (fun b e=>(hr b e).2.2),h.le,h.at0,h.sm,h.ok,h.kn.own hg (fun b e=>⟨(hr b e).1,(hr b e).2.1⟩) hA⟩
theorem QK(h:St D M A w0 w)(s:SetM)(hord:s.order<0)(hps:∀g,0<=s.p.get g/\s.p.get g<=100)(haw:0<=s.away/\s.away<256)(hA:∀b,A b->b<w.heap.size) :
 Calls qp 47 #[dm D (some M),zf s] w fun e w'=>∃a c,e=.returned (.slice a (qD D s).length c)/\(qD D s).length<=c/\qi w' 1 encI a (qD D s)/\St D M A w0 w'/\w.grownBy w' (some M) :=
 (play_any D s hord M w0 w h.bel h.le h.at0 h.sm h.ok hps haw A hA h.kn).mono fun _ _ ⟨⟨a,c,he,hl,hr⟩,hk,hg⟩=>⟨a,c,he,hl,hr,h.grown hg hk,hg⟩
def YX(D:DayM)(s:SetM):Int:=((qD D s).countP fun k=>k == -1:Nat)
end
theorem YO{l:List Int}{k:Nat}{x:Int}(p:Int->Bool)(h:l[k]? = some x):(l.drop k).countP p=(if p x=true then 1 else 0)+(l.drop (k+1)).countP p:=by
 obtain⟨hk,rfl⟩:=qB h;rw[List.drop_eq_getElem_cons hk,List.countP_cons];omega
theorem Jr(D:DayM)(M:Nat)(A0:Nat->Prop)(w0 w:World)(h:St D M A0 w0 w)(s:SetM)(hord:s.order<0)(hps:∀g,0<=s.p.get g/\s.p.get g<=100)(haw:0<=s.away/\s.away<256)(hA:∀b,A0 b->b<w.heap.size) :
 Calls qp 65 #[dm D (some M),zf s] w fun e w'=>e=.returned (.int .i64 (YX D s))/\St D M A0 w0 w'/\w.grownBy w' (some M):=by
 have hpl:=fun W (hB:Below w.heap.size w W)=>QK (h.keep hB) s hord hps haw (fun b hb=>Nat.lt_of_lt_of_le (hA b hb) hB.size);have hlen:(qD D s).length<=20:=by rw[qH];exact h.sm.cs.1
 unfold YX
 generalize qD D s=R at *
 unfold dm zf at *
 have HP:=qd hpl;clear hpl h hps hA;obtain⟨ts,ta,tc,gs,ga,gc,os,oa,oc,hs,ha,hc,cs,ca,cc⟩:=D
 simp only at *
 generalize Value.slice ta ts.length tc=x0 at *
 generalize Value.slice ga gs.length gc=x1 at *
 generalize Value.slice oa os.length oc=x2 at *
 generalize Value.slice ha hs.length hc=x3 at *
 generalize Value.slice ca cs.length cc=x4 at *
 go_enter (sf 65 f65),ntmps65;go_wp2_with (go_at_call 47;(with_reducible refine(HP.out _ (by go_grown)).mono ?_);rintro e w1 ⟨a,c,rfl,hlc,hrow,hst,hg⟩;have HST:=qd hst;have HG:=qd (qw (qo (w:=w) (by go_grown)) hg);have HROW:=qd hrow;clear hst hg hrow);go_loopw [12,5] (fun i q wr=>∃(k A:Nat),i=.int .i64 k/\q=.int .i64 A/\k<=R.length/\A<=k/\wr=w1/\Hid (A+(R.drop k).countP (fun k=>k == -1)=R.countP fun k=>k == -1)) (fun i _ _=>R.length-(intOf i).toNat);case atStart=>exact⟨0,0,rfl,rfl,by omega,by omega,rfl,qd (by simp)⟩
 case round =>
  obtain⟨k,A,rfl,rfl,hk,hA,rfl,HE⟩:=hrel;by_cases hlt:k<R.length
  ·obtain⟨x,hx⟩:∃x,R[k]? = some x:=⟨R[k],by simp[hlt]⟩;obtain⟨b,o,rfl,hP⟩:=HROW.out (by omega);have hkc:(k:Int)<=(c:Int):=(by omega);have c0:=hP k x hx 0 _ rfl;simp only[Nat.mul_one,Nat.add_zero]at c0;have hE:=HE.out;rw[YO _ hx]at hE;clear hP hx;by_cases e1:x=-1
   ·subst e1;have HF:=qd hE;clear hE;go_wp2;go_roundw;(case rel=>exact⟨k+1,A+1,rfl,rfl,by omega,by omega,(by first|rfl|trivial),qd (by have e:=HF.out;simp at e⊢;omega)⟩);case measure=>simp[intOf];omega
   ·have hne:(x == -1)=false:=(by simpa using e1);have HF:=qd hE;clear hE;go_wp2;go_roundw;(case rel=>exact⟨k+1,A,rfl,rfl,by omega,by omega,(by first|rfl|trivial),qd (by have e:=HF.out;rw[hne]at e;simp at e⊢;omega)⟩);case measure=>simp[intOf];omega
  ·obtain rfl:k=R.length:=(by omega);have hE:=HE.out;rw[List.drop_eq_nil_of_le ql]at hE;have HF:=qd hE;clear hE;go_wp2;go_ret;exact⟨by have e:=HF.out;simp at e;rw[<-e];rfl,HST.out,HG.out⟩
def xm:List Int->List CalM->Bool
 | n::ns,c::cs=>(c.se == -2||c.se==n)&&xm ns cs
 | _,_=>true
def yI(D:DayM)(p:PastM):Bool:=xm (qD D (setOf p)) D.cs
theorem Xi{ns:List Int}{cs:List CalM}{k:Nat}{n:Int}{c:CalM}(h1:ns[k]? = some n)(h2:cs[k]? = some c):xm (ns.drop k) (cs.drop k)=((c.se == -2||c.se==n)&&xm (ns.drop (k+1)) (cs.drop (k+1))):=by
 obtain⟨hk,rfl⟩:=qB h1;obtain⟨hl,rfl⟩:=qB h2;rw[List.drop_eq_getElem_cons hk,List.drop_eq_getElem_cons hl];rfl
theorem qfH(D:DayM)(M:Nat)(A0:Nat->Prop)(w0 w:World)(h:St D M A0 w0 w)(p:PastM)(hps:∀g,0<=p.get g/\p.get g<=100)(hA:∀b,A0 b->b<w.heap.size) :
 Calls qp 132 #[dm D (some M),pvP p] w fun e w'=>e=.returned (.bool (yI D p))/\St D M A0 w0 w'/\w.grownBy w' (some M):=by
 have hpl:=fun W (hB:Below w.heap.size w W)=>QK (h.keep hB) (setOf p) (by simp[setOf]) hps (by simp[setOf]) (fun b hb=>Nat.lt_of_lt_of_le (hA b hb) hB.size);have hlen:(qD D (setOf p)).length=D.cs.length:=qH _ _;have has:=fun W=>zX p W;have hcl:=h.sm.cs;have hml:=h.kn.lt;have HCS:=qd fun W (hB:Below w0.heap.size w0 W)=>h.at0.cs.keep hB;unfold yI;obtain⟨F,hF⟩:∃F,xm (qD D (setOf p)) D.cs=F:=⟨_,rfl⟩;rw[hF];have HF:=qd hF;clear hF
 generalize qD D (setOf p)=R at *
 generalize setOf p=s at *
 unfold dm pvP at *
 obtain⟨sv,hsv⟩:∃sv,zf s=sv:=⟨_,rfl⟩;rw[hsv]at has;simp only[hsv]at hpl;have HP:=qd hpl;have HAS:=qd has;clear hpl h hps has hA;obtain⟨pa,pb,pc,pd⟩:=p;obtain⟨ts,ta,tc,gs,ga,gc,os,oa,oc,hs,ha,hc,cs,ca,cc⟩:=D
 simp only at *
 go_enter (sf 132 f132),ntmps132;go_upto_region 1 with fail;go_cut [11,12,13]from 8 to 13 (fun q11 q12 q13 wx=>∃a c V,V=wx/\q11=.slice a R.length c/\q12=.int .i64 R.length/\q13=.int .i64 0/\R.length<=c/\qi wx 1 encI a R/\St ⟨ts,ta,tc,gs,ga,gc,os,oa,oc,hs,ha,hc,cs,ca,cc⟩ M A0 w0 wx/\w.grownBy wx (some M)/\wx.cell? ⟨w.heap.size,4,none⟩=some (.slice ca cs.length cc))
 case first =>
  go_wp2_with fail;refine wp_region_any (by kernel_rfl) ?_;try(change wpAny _ _ _ _ _ _ _ (World.drew _))
  (refine wpAny_take (i:=5) (v:=?_) rfl (by kernel_rfl) (by kernel_rfl) (by kernel_rfl) (fun _ _ _ h=>h) (Or.inl ⟨by rfl,?_⟩) ?_;rotate_left 1;focus(intro w;go_simp;first|done|with_reducible rfl);try simp only[zs,Act.put]);refine wpAny_ready (rs:=[0,1]) (by kernel_rfl) (by simp) ?_;refine AllReady.cons rfl (fun K hK=>?_) ?_
  ·skip;go_simp;refine hK _ _ ?_;clear hK K;(refine wpAny_ready (rs:=[1]) (by kernel_rfl) (by simp) ?_;refine AllReady.cons rfl (fun K hK=>?_) AllReady.nil;go_simp;refine hK _ _ ?_;clear hK K);refine wpAny_ready (rs:=[2]) (by kernel_rfl) (by simp) ?_;refine AllReady.cons rfl (fun K hK=>?_) AllReady.nil;go_simp;go_wp2_with (go_at_call 48;(with_reducible refine(HAS.out _).mono ?_);rintro e wa ⟨rfl,hBa⟩;have hBw:=bcl (w:=w) (by go_grown) hBa;have k0:=qb ⟨w.heap.size,0,none⟩ hBa (v:=.slice ta ts.length tc) (by go_cell);have k1:=qb ⟨w.heap.size,1,none⟩ hBa (v:=.slice ga gs.length gc) (by go_cell);have k2:=qb ⟨w.heap.size,2,none⟩ hBa (v:=.slice oa os.length oc) (by go_cell);have k3:=qb ⟨w.heap.size,3,none⟩ hBa (v:=.slice ha hs.length hc) (by go_cell);have k4:=qb ⟨w.heap.size,4,none⟩ hBa (v:=.slice ca cs.length cc) (by go_cell);have k5:=qb ⟨w.heap.size,5,none⟩ hBa (v:=.map (some M)) (by go_cell));(try(refine hK _ _ ?_;clear hK K));refine wpAny_ready (rs:=[3]) (by kernel_rfl) (by simp) ?_;refine AllReady.cons rfl (fun K hK=>?_) AllReady.nil;go_simp;go_wp2_with ((go_at_call 47;(with_reducible refine(HP.out _ (by first|exact hBw|exact hBw.drew|go_grown)).mono ?_);rintro e w1 ⟨a,c,rfl,hlc,hrow,hst,hg⟩));(try(refine hK _ _ ?_;clear hK K));(refine wpAny_take (i:=4) (v:=?_) rfl (by kernel_rfl) (by kernel_rfl) (by kernel_rfl) (fun _ _ _ h=>h) (Or.inl ⟨by rfl,?_⟩) ?_;rotate_left 1;focus(intro w;go_simp;first|done|with_reducible rfl);try simp only[zs,Act.put]);refine wpAny_done (by kernel_rfl) ?_ _;try simp only[zs,Act.put]
   go_wp2_with fail
   go_meet
   exact⟨a,c,_,rfl,by rw[hlen],by rw[hlen],rfl,hlc,hrow,hst,qw (qo (by first|exact hBw|exact hBw.drew|go_grown)) hg,qZ hg (by first|exact k4|go_cell) (by simp only;omega)⟩
  refine AllReady.cons rfl (fun K hK=>?_) AllReady.nil;go_simp;refine hK _ _ ?_;clear hK K;refine wpAny_ready (rs:=[0,2]) (by kernel_rfl) (by simp) ?_;refine AllReady.cons rfl (fun K hK=>?_) ?_
  ·skip;go_simp;refine hK _ _ ?_;clear hK K;refine wpAny_ready (rs:=[2]) (by kernel_rfl) (by simp) ?_;refine AllReady.cons rfl (fun K hK=>?_) AllReady.nil;go_simp;go_wp2_with (go_at_call 48;(with_reducible refine(HAS.out _).mono ?_);rintro e wa ⟨rfl,hBa⟩;have hBw:=bcl (w:=w) (by go_grown) hBa;have k0:=qb ⟨w.heap.size,0,none⟩ hBa (v:=.slice ta ts.length tc) (by go_cell);have k1:=qb ⟨w.heap.size,1,none⟩ hBa (v:=.slice ga gs.length gc) (by go_cell);have k2:=qb ⟨w.heap.size,2,none⟩ hBa (v:=.slice oa os.length oc) (by go_cell);have k3:=qb ⟨w.heap.size,3,none⟩ hBa (v:=.slice ha hs.length hc) (by go_cell);have k4:=qb ⟨w.heap.size,4,none⟩ hBa (v:=.slice ca cs.length cc) (by go_cell);have k5:=qb ⟨w.heap.size,5,none⟩ hBa (v:=.map (some M)) (by go_cell));(try(refine hK _ _ ?_;clear hK K));refine wpAny_ready (rs:=[3]) (by kernel_rfl) (by simp) ?_;refine AllReady.cons rfl (fun K hK=>?_) AllReady.nil;go_simp;go_wp2_with ((go_at_call 47;(with_reducible refine(HP.out _ (by first|exact hBw|exact hBw.drew|go_grown)).mono ?_);rintro e w1 ⟨a,c,rfl,hlc,hrow,hst,hg⟩));(try(refine hK _ _ ?_;clear hK K));(refine wpAny_take (i:=4) (v:=?_) rfl (by kernel_rfl) (by kernel_rfl) (by kernel_rfl) (fun _ _ _ h=>h) (Or.inl ⟨by rfl,?_⟩) ?_;rotate_left 1;focus(intro w;go_simp;first|done|with_reducible rfl);try simp only[zs,Act.put]);refine wpAny_done (by kernel_rfl) ?_ _;(try simp only[zs,Act.put]);go_wp2_with fail
   go_meet
   exact⟨a,c,_,rfl,by rw[hlen],by rw[hlen],rfl,hlc,hrow,hst,qw (qo (by first|exact hBw|exact hBw.drew|go_grown)) hg,qZ hg (by first|exact k4|go_cell) (by simp only;omega)⟩
  refine AllReady.cons rfl (fun K hK=>?_) AllReady.nil;go_simp;go_wp2_with (go_at_call 48;(with_reducible refine(HAS.out _).mono ?_);rintro e wa ⟨rfl,hBa⟩;have hBw:=bcl (w:=w) (by go_grown) hBa;have k0:=qb ⟨w.heap.size,0,none⟩ hBa (v:=.slice ta ts.length tc) (by go_cell);have k1:=qb ⟨w.heap.size,1,none⟩ hBa (v:=.slice ga gs.length gc) (by go_cell);have k2:=qb ⟨w.heap.size,2,none⟩ hBa (v:=.slice oa os.length oc) (by go_cell);have k3:=qb ⟨w.heap.size,3,none⟩ hBa (v:=.slice ha hs.length hc) (by go_cell);have k4:=qb ⟨w.heap.size,4,none⟩ hBa (v:=.slice ca cs.length cc) (by go_cell);have k5:=qb ⟨w.heap.size,5,none⟩ hBa (v:=.map (some M)) (by go_cell));try(refine hK _ _ ?_;clear hK K)
  (refine wpAny_ready (rs:=[0]) (by kernel_rfl) (by simp) ?_;refine AllReady.cons rfl (fun K hK=>?_) AllReady.nil;go_simp;refine hK _ _ ?_;clear hK K);refine wpAny_ready (rs:=[3]) (by kernel_rfl) (by simp) ?_;refine AllReady.cons rfl (fun K hK=>?_) AllReady.nil;go_simp;go_wp2_with ((go_at_call 47;(with_reducible refine(HP.out _ (by first|exact hBw|exact hBw.drew|go_grown)).mono ?_);rintro e w1 ⟨a,c,rfl,hlc,hrow,hst,hg⟩));try(refine hK _ _ ?_;clear hK K)
  (refine wpAny_take (i:=4) (v:=?_) rfl (by kernel_rfl) (by kernel_rfl) (by kernel_rfl) (fun _ _ _ h=>h) (Or.inl ⟨by rfl,?_⟩) ?_;rotate_left 1;focus(intro w;go_simp;first|done|with_reducible rfl);try simp only[zs,Act.put]);refine wpAny_done (by kernel_rfl) ?_ _;try simp only[zs,Act.put]
  go_wp2_with fail
  go_meet
  exact⟨a,c,_,rfl,by rw[hlen],by rw[hlen],rfl,hlc,hrow,hst,qw (qo (by first|exact hBw|exact hBw.drew|go_grown)) hg,qZ hg (by first|exact k4|go_cell) (by simp only;omega)⟩
 case rest =>
  obtain⟨a,c,V,rfl,rfl,rfl,rfl,hlc,hrow,hst,hg,h4⟩:=hcut;have hcs:=HCS.out V hst.bel;have HST:=qd hst;have HG:=qd hg;have HROW:=qd hrow;have HC2:=qd hcs;clear hst hg hrow hcs;go_wp2_with fail;go_loopw [13] (fun i wr=>∃k:Nat,i=.int .i64 k/\k<=R.length/\wr=V/\Hid (xm (R.drop k) (cs.drop k)=F)) (fun i _=>R.length-(intOf i).toNat);case atStart=>exact⟨0,rfl,by omega,rfl,HF⟩
  case round =>
   obtain⟨k,rfl,hk,rfl,HE⟩:=hrel;by_cases hlt:k<R.length
   ·obtain⟨x,hx⟩:∃x,R[k]? = some x:=⟨R[k],by simp[hlt]⟩;obtain⟨y,hy⟩:∃x,cs[k]? = some x:=⟨cs[k]'(by omega),by simp⟩;obtain⟨b,o,rfl,hP⟩:=HROW.out (by omega);obtain⟨cb,co,rfl,hQ⟩:=HC2.out (by show 1<=cs.length;omega);have hkc:(k:Int)<=(c:Int):=(by omega);have hkd:(k:Int)<=(cc:Int):=(by omega);have hke:(k:Int)<(cs.length:Int):=(by omega);have c0:=hP k x hx 0 _ rfl;have d4:=hQ k y hy 4 _ rfl;simp only[Nat.mul_one,Nat.add_zero]at c0;have hE:=HE.out;rw[Xi hx hy]at hE;clear hP hQ hx hy;obtain⟨f1,f2,f3,f4,se⟩:=y;simp only at d4 hE;by_cases g1:se=-2
    ·subst g1;have HF2:=qd hE;clear hE;go_wp2;go_roundw;(case rel=>exact⟨k+1,rfl,by omega,(by first|rfl|trivial),qd (by simpa using HF2.out)⟩);case measure=>simp[intOf];omega
    ·have hne:(se != -2)=true:=(by simpa using g1);by_cases g2:se=x
     ·subst g2;have HF2:=qd hE;clear hE;go_wp2;go_roundw;(case rel=>exact⟨k+1,rfl,by omega,(by first|rfl|trivial),qd (by simpa using HF2.out)⟩);case measure=>simp[intOf];omega
     ·have hne2:(se != x)=true:=(by simpa using g2);have hFf:F=false:=(by rw[<-hE];simp[g1,g2]);clear hE;subst hFf;go_wp2;go_ret;exact⟨rfl,HST.out,HG.out⟩
   ·obtain rfl:k=R.length:=by omega
    have hFt:F=true:=by
     rw[<-HE.out,List.drop_eq_nil_of_le ql];rfl
    subst hFt;go_wp2;go_ret;exact⟨rfl,HST.out,HG.out⟩
end Go.Proofs.Tryz
namespace Go.Proofs.Tryz
open Go Go.Load Go.RowKit
theorem xD{α:Type}(f:Nat->α->Int):∀(l:List α) (i:Nat),zA f i l=0->∀g∈l,∃j,f j g=0
 | [],_,_,g,hg=>by cases hg
 | x::l,i,h,g,hg=>by
   unfold zA at h;by_cases hx:f i x=0
   ·rw[if_neg (by simpa using hx)]at h;rcases List.mem_cons.1 hg with rfl|hg
    ·exact⟨i,hx⟩
    ·exact xD f l (i+1) h g hg
   ·rw[if_pos hx]at h;exact absurd h hx
theorem XV(D:DayM)(tw:Int):∀(l:List Int) (t:Int) (ps:List Int),Xx D tw t ps l=0->∀k∈l,0<=k/\k<D.gs.length
 | [],_,_,_,k,hk=>by cases hk
 | x::l,t,ps,h,k,hk=>by
   unfold Xx at h
   cases hb:btw x 0 (D.gs.length-1)with
   | false=>rw[hb]at h;simp at h
   | true =>
     have hx:=zS.1 hb;rw[hb]at h;simp only[Bool.true_eq_false,if_false]at h;rcases List.mem_cons.1 hk with rfl|hk
     ·omega
     ·split at h
      ·cases h
      ·split at h
       ·cases h
       ·split at h
        ·cases h
        ·exact XV D tw l _ _ h k hk
theorem Zc(D:DayM):∀(l:List OrdM) (met:List (Int×Int)),yT D met l=0->∀o∈l,∃met,qfv D met o=0
 | [],_,_,o,ho=>by cases ho
 | x::l,met,h,o,ho=>by
   unfold yT at h;by_cases hx:qfv D met x=0
   ·rw[if_neg (by simpa using hx)]at h;rcases List.mem_cons.1 ho with rfl|ho
    ·exact⟨met,hx⟩
    ·exact Zc D l _ h o ho
   ·rw[if_pos hx]at h;exact absurd h hx
theorem qY(D:DayM)(h:checkN D=0):DayOK D:=by
 unfold checkN at h
 have z:∀{a b:Int},(if a≠0 then a else b)=0->a=0/\b=0:=fun {a b} h=>by
  by_cases ha:a=0
  ·rw[if_neg (by simpa using ha)]at h;exact⟨ha,h⟩
  ·rw[if_pos ha]at h;exact absurd h ha
 obtain⟨_,h⟩:=z h;obtain⟨hg,h⟩:=z h;obtain⟨ho,h⟩:=z h;obtain⟨hh,hc⟩:=z h;unfold yz at hg;unfold xJ at ho;unfold jN at hh;unfold Qy at hc;have lg:¬4<D.gs.length:=fun e=>by rw[if_pos e]at hg;cases hg
 have lo:¬6<D.os.length:=fun e=>by rw[if_pos e]at ho;cases ho
 have lh:¬3<D.hs.length:=fun e=>by rw[if_pos e]at hh;cases hh
 have lc:¬8<D.cs.length:=fun e=>by rw[if_pos e]at hc;cases hc
 rw[if_neg lo]at ho;rw[if_neg lh]at hh
 have hord:∀o∈D.os,o.ws.length<=3/\zA (JG D o) 0 o.ws=0:=fun o hm=>by
  obtain⟨met,e⟩:=Zc D D.os [] ho o hm;unfold qfv at e;obtain⟨_,e⟩:=z e;split at e
  ·cases e
  ·split at e
   ·cases e
   ·exact⟨by omega,e⟩
 refine⟨by omega,by omega,by omega,fun o hm=>(hord o hm).1,fun o hm x hx k hk=>?_,fun x hx=>?_⟩
 ·obtain⟨j,e⟩:=xD _ _ _ (hord o hm).2 x hx;unfold JG at e;obtain⟨e,_⟩:=z e;unfold qbM at e;split at e
  ·cases e
  ·exact XV D _ _ _ _ e k hk
 ·obtain⟨j,e⟩:=xD _ _ _ hh x hx;unfold hldA at e;split at e
  ·cases e
  ·split at e
   ·cases e
   ·rename_i h1;simp only[Bool.not_eq_false,Bool.and_eq_true]at h1;have:=zS.1 h1.1.1;omega
theorem xG(D:DayM)(h:checkN D=0):∀g∈D.gs,0<=g.lo/\g.lo<=g.hi/\g.hi<=6/\g.hi-g.lo<3:=by
 unfold checkN at h
 have z:∀{a b:Int},(if a≠0 then a else b)=0->a=0/\b=0:=fun {a b} h=>by
  by_cases ha:a=0
  ·rw[if_neg (by simpa using ha)]at h;exact⟨ha,h⟩
  ·rw[if_pos ha]at h;exact absurd h ha
 obtain⟨_,h⟩:=z h;obtain⟨hg,_⟩:=z h;unfold yz at hg;split at hg
 ·cases hg
 ·intro g hm;obtain⟨j,e⟩:=xD _ _ _ hg g hm;unfold grpA at e;obtain⟨_,e⟩:=z e;split at e
  ·cases e
  ·omega
end Go.Proofs.Tryz
namespace Go.Proofs.Tryz
open Go Go.Load Go.LoadR Go.RowKit
theorem jY(w:World):(isAgg 40).run qp w=.ok true w:=by kernel_rfl
theorem je(w:World):(Go.sizeOf 40).run qp w=.ok 2 w:=by kernel_rfl
theorem XA(l:List Int)(a:Option Addr)(c:Nat)(h1:1<=l.length)(h2:l.length<=c)(h3:l.length<=1000)(w:World)(hr:qi w 1 encI a l) :
 Calls qp 57 #[.slice a l.length c] w fun e w'=>e=.returned (.agg #[.int .i64 (l.getD 0 0),.int .i64 (l.getD (l.length-1) 0)])/\Below w.heap.size w w':=by
 obtain⟨b,o,rfl,hP⟩:=hr h1;obtain⟨x,hx⟩:∃x,l[0]? = some x:=⟨l[0],by simp⟩;obtain⟨y,hy⟩:∃x,l[l.length-1]? = some x:=⟨l[l.length-1]'(by omega),by simp⟩;have c0:=hP 0 x hx 0 _ rfl;have c1:=hP (l.length-1) y hy 0 _ rfl;rw[List.getD_eq_getElem?_getD,List.getD_eq_getElem?_getD,hx,hy];simp only[Option.getD_some];obtain⟨n,hn⟩:∃n,l.length=n+1:=⟨l.length-1,by omega⟩;rw[hn]at h2 h3 c1⊢;simp only[Nat.mul_one,Nat.add_zero,Nat.zero_mul,Nat.add_sub_cancel]at c0 c1;have i0:(0:Int)<=(n:Int):=Int.natCast_nonneg n;have i1:((n+1:Nat):Int)-1=(n:Int):=by omega
 have i2:(0:Int)<((n+1:Nat):Int):=by omega
 have i3:(n:Int)<((n+1:Nat):Int):=by omega
 have i4:wrap64 (((n+1:Nat):Int)-1)=(n:Int):=by rw[i1];unfold wrap64;omega
 have hbw:=lt_of_cell c0;simp only at hbw;clear hP hx hy hr h1 hn;go_enter (sf 57 f57),ntmps57;go_wp2;go_region
 all_goals
  go_wp2;refine bodyPost_ret (Zh results57 rfl (LoadR.load_2 jY je (by go_cell) (by go_cell))) rfl ⟨rfl,?_⟩;go_grown
def PastM.set(p:PastM):Nat->Int->PastM
 | 0,v=>{ p with a:=v }
 | 1,v=>{ p with b:=v }
 | 2,v=>{ p with c:=v }
 | _,v=>{ p with d:=v }
theorem PastM.get_set(p:PastM){i:Nat}(hi:i<4)(v:Int):(p.set i v).get i=v:=by
 match i,hi with
 | 0,_=>rfl
 | 1,_=>rfl
 | 2,_=>rfl
 | 3,_=>rfl
theorem PastM.get_set_ne(p:PastM){i j:Nat}(hi:i<4)(hj:j<4)(h:j≠i)(v:Int):(p.set i v).get j=p.get j:=by
 match i,hi,j,hj with
 | 0,_,0,_=>exact absurd rfl h
 | 0,_,1,_=>rfl
 | 0,_,2,_=>rfl
 | 0,_,3,_=>rfl
 | 1,_,0,_=>rfl
 | 1,_,1,_=>exact absurd rfl h
 | 1,_,2,_=>rfl
 | 1,_,3,_=>rfl
 | 2,_,0,_=>rfl
 | 2,_,1,_=>rfl
 | 2,_,2,_=>exact absurd rfl h
 | 2,_,3,_=>rfl
 | 3,_,0,_=>rfl
 | 3,_,1,_=>rfl
 | 3,_,2,_=>rfl
 | 3,_,3,_=>exact absurd rfl h
theorem PastM.get_big(p:PastM){j:Nat}(h:4<=j):p.get j=p.get 3:=by
 match j,h with
 | 0,h=>omega
 | 1,h=>omega
 | 2,h=>omega
 | 3,h=>omega
 | n+4,_=>rfl
theorem PastM.same{p q:PastM}(h:∀j,j<4->p.get j=q.get j):p=q:=by
 obtain⟨a,b,c,d⟩:=p;obtain⟨a',b',c',d'⟩:=q;have h0:=h 0 (by omega);have h1:=h 1 (by omega);have h2:=h 2 (by omega);have h3:=h 3 (by omega);simp only[PastM.get]at h0 h1 h2 h3;subst h0 h1 h2 h3;rfl
def PastM.ok(p:PastM):Prop:=∀g,0<=p.get g/\p.get g<=100
theorem PastM.ok_set{p:PastM}(h:p.ok){i:Nat}(hi:i<4){v:Int}(hv:0<=v/\v<=100):(p.set i v).ok:=by
 have hx:∀j,j<4->0<=(p.set i v).get j/\(p.set i v).get j<=100:=fun j hj=>by
  by_cases e:j=i
  ·subst e;rw[PastM.get_set _ hj];exact hv
  ·rw[PastM.get_set_ne _ hi hj e];exact h j
 intro g;by_cases hg:g<4
 ·exact hx g hg
 ·rw[PastM.get_big _ (by omega)];exact hx 3 (by omega)
def Qw(lo hi:Int):List Int:=(List.range (hi-lo+1).toNat).map fun(k:Nat)=>lo+k
theorem JJ{lo hi:Int}(h:hi<lo):Qw lo hi=[]:=by
 unfold Qw;rw[show(hi-lo+1).toNat=0 by omega];rfl
theorem Xz{lo hi:Int}(h:lo<=hi):Qw lo hi=lo::Qw (lo+1) hi:=by
 unfold Qw;rw[show(hi-lo+1).toNat=(hi-(lo+1)+1).toNat+1 by omega,List.range_succ_eq_map,List.map_cons,List.map_map];congr 1
 ·simp
 ·apply List.map_congr_left;intro k _;simp only[Function.comp];omega
def zw:List GrpM->Nat->PastM->List PastM
 | [],_,p=>[p]
 | g::gs,i,p=>(Qw g.lo g.hi).flatMap fun n=>zw gs (i+1) (p.set i n)
def qx(D:DayM):List PastM:=(zw D.gs 0 ⟨0,0,0,0⟩).filter (yI D)
def Yb(gs:List GrpM)(i:Nat)(p:PastM)(n hi:Int):List PastM:=(Qw n hi).flatMap fun n=>zw gs (i+1) (p.set i n)
theorem Xf{gs:List GrpM}{i:Nat}{p:PastM}{n hi:Int}(h:n<=hi):Yb gs i p n hi=zw gs (i+1) (p.set i n)++Yb gs i p (n+1) hi:=by
 unfold Yb;rw[Xz h,List.flatMap_cons]
theorem qdA{gs:List GrpM}{i:Nat}{p:PastM}{n hi:Int}(h:hi<n):Yb gs i p n hi=[]:=by
 unfold Yb;rw[JJ h];rfl
theorem qar{gs:List GrpM}{i:Nat}{g:GrpM}(h:gs[i]? = some g)(p:PastM):zw (gs.drop i) i p=Yb (gs.drop (i+1)) i p g.lo g.hi:=by
 obtain⟨hk,rfl⟩:=qB h;rw[List.drop_eq_getElem_cons hk];rfl
abbrev pt(b:Nat):Value:=.pointer (some ⟨b,0,none⟩)
structure NB (D:DayM) (M s l:Nat) (W:World) (q:PastM):Prop where
 d6:B6 W s (.slice D.ta D.ts.length D.tc) (.slice D.ga D.gs.length D.gc) (.slice D.oa D.os.length D.oc) (.slice D.ha D.hs.length D.hc) (.slice D.ca D.cs.length D.cc) (.map (some M))
 y:W.cell? ⟨s+1,0,none⟩=some (.func (.yield l) #[] #[])
 n:W.cell? ⟨s+3,0,none⟩=some (.func (.func 131) #[] #[pt s,pt (s+2),pt (s+1),pt (s+3)])
 c:∀i,i<4->W.cell? ⟨s+2,i,none⟩=some (.int .i64 (q.get i))
 f:∀i,i<4->W.frozen? ⟨s+2,i,none⟩=false
section
variable {D:DayM} {M s l:Nat} {W W1:World} {q:PastM}
theorem NB.same(h:NB D M s l W q)(hk:∀b,s<=b->b<s+4->W1.heap[b]? = W.heap[b]?):NB D M s l W1 q:=by
 have c0:∀(b i:Nat) (v:Value),s<=b->b<s+4->W.cell? ⟨b,i,none⟩=some v->W1.cell? ⟨b,i,none⟩=some v:=fun b i v h1 h2 hc=>(World.cell?_of_block (a:=⟨b,i,none⟩) (hk b h1 h2)).trans hc;refine⟨⟨?_,?_,?_,?_,?_,?_⟩,?_,?_,?_,?_⟩
 ·exact c0 _ _ _ (by omega) (by omega) h.d6.c0
 ·exact c0 _ _ _ (by omega) (by omega) h.d6.c1
 ·exact c0 _ _ _ (by omega) (by omega) h.d6.c2
 ·exact c0 _ _ _ (by omega) (by omega) h.d6.c3
 ·exact c0 _ _ _ (by omega) (by omega) h.d6.c4
 ·exact c0 _ _ _ (by omega) (by omega) h.d6.c5
 ·exact c0 _ _ _ (by omega) (by omega) h.y
 ·exact c0 _ _ _ (by omega) (by omega) h.n
 ·exact fun i hi=>c0 _ _ _ (by omega) (by omega) (h.c i hi)
 ·exact fun i hi=>(World.frozen?_of_block (a:=⟨s+2,i,none⟩) (hk (s+2) (by omega) (by omega))).trans (h.f i hi)
theorem qj{a:Addr}{p:Addr}{v u:Value}(hc:W.cell? a=some v)(h:a.block≠p.block\/a.off≠p.off):(W.setCell p u).cell? a=some v:=by
 rw[World.cell?_setCell_other _ _ _ _ (fun e=>by subst e;rcases h with h|h<;>exact h rfl)];exact hc
theorem NB.put(h:NB D M s l W q){i:Nat}(hi:i<4)(n:Int):NB D M s l (W.setCell ⟨s+2,i,none⟩ (.int .i64 n)) (q.set i n):=by
 refine⟨⟨?_,?_,?_,?_,?_,?_⟩,?_,?_,?_,?_⟩
 ·exact qj h.d6.c0 (.inl (by simp))
 ·exact qj h.d6.c1 (.inl (by simp))
 ·exact qj h.d6.c2 (.inl (by simp))
 ·exact qj h.d6.c3 (.inl (by simp))
 ·exact qj h.d6.c4 (.inl (by simp))
 ·exact qj h.d6.c5 (.inl (by simp))
 ·exact qj h.y (.inl (by simp))
 ·exact qj h.n (.inl (by simp))
 ·intro j hj;by_cases e:j=i
  ·subst e;rw[PastM.get_set _ hi];exact qA (qL (h.c j hj))
  ·rw[PastM.get_set_ne _ hi hj e];exact qj (h.c j hj) (.inr e)
 ·intro j hj;simpa using h.f j hj
end
def cI(W:World)(a:Addr):Int:=match W.cell? a with
 | some (.int _ n)=>n
 | _=>0
theorem cI_of{W:World}{a:Addr}{n:Int}(h:W.cell? a=some (.int .i64 n)):cI W a=n:=by
 unfold cI;rw[h]
theorem next_any{D:DayM}{M s l N:Nat}{J:List PastM->World->Prop}(hl:D.gs.length<=4)(hlc:D.gs.length<=D.gc)(hb:∀g∈D.gs,0<=g.lo/\g.lo<=g.hi/\g.hi<=6)
 (jg:∀o W,J o W->qi W 4 JV D.ga D.gs)
 (jr:∀o W q,J o W->s+4<=W.heap.size->q.ok->Calls qp 132 #[dm D (some M),pvP q] W fun e W'=>e=.returned (.bool (yI D q))/\J o W'/\∀b,s<=b->b<s+4->W'.heap[b]? = W.heap[b]?)
 (jk:∀o W W1,J o W->Below W.heap.size W W1->J o W1)
 (jp:∀o W i n,J o W->s+4<=W.heap.size->J o (W.setCell ⟨s+2,i,none⟩ (.int .i64 n)))
 (jy:∀o W q,J o W->o.length<N->NB D M s l W q->q.ok->yI D q=true->YieldAt Fence.wide 1 qp l #[pvP q] W fun e W'=>e=.returned (.bool true)/\J (o++[q]) W'/\∀b,s<=b->b<s+4->W'.heap[b]? = W.heap[b]?) :
 ∀m i,i+m=D.gs.length->∀o W p q,J o W->NB D M s l W q->(∀j,j<4->j<i\/D.gs.length<=j->q.get j=p.get j)->p.ok->o.length+((zw (D.gs.drop i) i p).filter (yI D)).length<=N ->
  Calls qp 131 #[.int .i64 i,pt s,pt (s+2),pt (s+1),pt (s+3)] W fun e W'=>e=.returned (.bool true)/\J (o++(zw (D.gs.drop i) i p).filter (yI D)) W'/\∃q',NB D M s l W' q'/\∀j,j<4->j<i\/D.gs.length<=j->q'.get j=p.get j:=by
 intro m
 induction m with
 | zero =>
   intro i hi o W p q hJ hN hq hp hnl;obtain rfl:i=D.gs.length:=(by omega);obtain rfl:q=p:=PastM.same fun j hj=>hq j hj (by omega);have hr:=jr o W q hJ (by have:=lt_of_cell hN.n;simp only at this;omega) hp;rw[List.drop_eq_nil_of_le ql]at hnl⊢;have HN:=qd hN;obtain⟨⟨k0,k1,k2,k3,k4,k5⟩,y,n,c,f⟩:=hN;have c0:=c 0 (by omega);have c1:=c 1 (by omega);have c2:=c 2 (by omega);have c3:=c 3 (by omega);simp only[PastM.get]at c0 c1 c2 c3;have hy:=fun W1 J1 N1 h=>jy o W1 q J1 (by simp[zw,h]at hnl;omega) N1 hp h;clear jr jp jy jg jk hb hq hp c f hi hnl;have HJ:=qd hJ;clear hJ
   cases hrb:yI D q with
   | false =>
     rw[hrb]at hr;clear hy;have HE:Hid (o++[q].filter (yI D)=o):=qd (by simp[hrb]);unfold dm pvP at hr;clear hrb
     generalize Value.slice D.ta D.ts.length D.tc=x0 at *
     generalize Value.slice D.oa D.os.length D.oc=x2 at *
     generalize Value.slice D.ha D.hs.length D.hc=x3 at *
     generalize Value.slice D.ca D.cs.length D.cc=x4 at *
     go_enter (sf 131 f131),ntmps131;go_wp2_with (go_at_call 132;(with_reducible refine hr.mono ?_);rintro e w1 ⟨rfl,hJ1,hk1⟩);go_ret;refine⟨rfl,?_,_,HN.out.same hk1,fun j hj _=>rfl⟩;show J (o++[q].filter (yI D)) w1;rw[HE.out];exact hJ1
   | true =>
     rw[hrb]at hr;have HE:Hid ([q].filter (yI D)=[q]):=qd (by simp[hrb]);have HY:=qd (fun W1 J1 N1=>hy W1 J1 N1 hrb);clear hy;unfold dm pvP at hr;clear hrb
     generalize Value.slice D.ta D.ts.length D.tc=x0 at *
     generalize Value.slice D.oa D.os.length D.oc=x2 at *
     generalize Value.slice D.ha D.hs.length D.hc=x3 at *
     generalize Value.slice D.ca D.cs.length D.cc=x4 at *
     go_enter (sf 131 f131),ntmps131;go_upto_region 2 with fail;refine(wpIn_wide (n:=2)).1 ?_
     gi_wp2_with (first|(refine⟨trivial,?_⟩;gi_at_call 132;(with_reducible refine(callsIn_wide.2 hr).mono ?_);rintro e w1 ⟨rfl,hJ1,hk1⟩;have hN1:=HN.out.same hk1;obtain⟨fn,tmps,assign,body,hy,hR⟩:=HY.out w1 hJ1 hN1;obtain⟨-,y1,-,e1,-⟩:=id hN1;have d0:=e1 0 (by omega);have d1:=e1 1 (by omega);have d2:=e1 2 (by omega);have d3:=e1 3 (by omega);clear e1;simp only[PastM.get]at d0 d1 d2 d3;unfold pvP at hy))
     refine hR.mono ?_;rintro e w2 ⟨rfl,hJ2,hk2⟩
     gi_wp2
     go_wp2;go_ret;refine⟨rfl,?_,_,hN1.same hk2,fun j hj _=>rfl⟩;show J (o++[q].filter (yI D)) w2;rw[HE.out];exact hJ2
 | succ m ih =>
   intro i hi o W p q hJ hN hq hp hnl;have hlt:i<D.gs.length:=(by omega);obtain⟨g,hg⟩:∃g,D.gs[i]? = some g:=⟨D.gs[i],by simp[hlt]⟩;have hgb:=hb g (qI hg);rw[qar hg]at hnl⊢;have hi4:i<4:=(by omega);have hne:((i:Int)==(D.gs.length:Int))=false:=(by simp;omega);have hi0:(0:Int)<=(i:Int):=Int.natCast_nonneg i;have hi1:(i:Int)<4:=(by omega);have hi2:(i:Int)<(D.gs.length:Int):=(by omega);have hi3:(i:Int)<=(D.gc:Int):=(by omega);have hw:wrap64 ((i:Int)+1)=(i:Int)+1:=(by unfold wrap64;omega);obtain⟨gb,go,hga,-⟩:=jg o W hJ (by omega)
   have hP:∀o W,J o W->W.cell? ⟨gb,go+i*4+2,none⟩=some (.int .i64 g.lo)/\W.cell? ⟨gb,go+i*4+3,none⟩=some (.int .i64 g.hi):=fun o W hJ=>by
    obtain⟨b,o',e,h⟩:=jg o W hJ (by omega);rw[hga]at e;cases e;exact⟨h i g hg 2 _ rfl,h i g hg 3 _ rfl⟩
   have HPS:=qd hP;obtain⟨clo,chi⟩:=hP o W hJ;have HIH:=qd (ih (i+1) (by omega));have HK:=qd (qg jk jp);have HJ:=qd hJ;have HN:=qd hN;have HQ:=qd hq;have HP:=qd hp;obtain⟨⟨k0,k1,k2,k3,k4,k5⟩,y,nx,c,f⟩:=hN;have ci:=c i hi4;have fi:=f i hi4;rw[hga]at k1;obtain⟨R,hR⟩:∃R,(Yb (D.gs.drop (i+1)) i p g.lo g.hi).filter (yI D)=R:=⟨_,rfl⟩;rw[hR]at hnl⊢;have HR:=qd hR;clear hR ih jr jp jy jg jk hb hq hp hJ c f hP hg hl hlc;obtain⟨lo,hlo⟩:∃x,g.lo=x:=⟨_,rfl⟩;obtain⟨hi',hhi⟩:∃x,g.hi=x:=⟨_,rfl⟩;rw[hlo]at clo hgb;rw[hhi]at chi hgb;rw[hlo,hhi]at HPS HR;go_enter (sf 131 f131),ntmps131;go_wp2;go_loopw [6] (fun i0 wr=>∃(n:Int) (o':List PastM) (q':PastM),i0=.bool false/\lo<=n/\n<=hi'+1/\Hid (q'.get i=n)/\Hid (NB D M s l wr q')/\Hid (∀j,j<4->j<i\/D.gs.length<=j->q'.get j=p.get j)/\Hid (J o' wr)/\Hid (o'++(Yb (D.gs.drop (i+1)) i p n hi').filter (yI D)=o++R)) (fun _ wr=>(hi'+1-cI wr ⟨s+2,i,none⟩).toNat);case atStart=>exact⟨lo,o,_,rfl,by omega,by omega,qd (PastM.get_set _ hi4 lo),qd (HN.out.put hi4 lo),qd (fun j hj hji=>by rw[PastM.get_set_ne _ hi4 hj (by omega)];exact HQ.out j hj hji),qd (HK.out.2 _ _ _ _ HJ.out (by have:=lt_of_cell HN.out.n;simp only at this;omega)),qd (by rw[HR.out])⟩
   case round =>
    clear y nx k0 k1 k2 k3 k4 k5 ci fi clo chi HN HQ HJ;obtain⟨n,o',q',rfl,hn0,hn1,HG,HN,HQ,HJ,HE⟩:=hrel;obtain⟨⟨k0,k1,k2,k3,k4,k5⟩,y,nx,c,f⟩:=id HN.out;have ci:=c i hi4;have fi:=f i hi4;rw[HG.out]at ci;rw[hga]at k1;obtain⟨clo,chi⟩:=HPS.out _ _ HJ.out;have hm:cI wr ⟨s+2,i,none⟩=n:=cI_of ci;clear c f;by_cases hle:n<=hi'
    ·have hwn:wrap64 (n+1)=n+1:=(by unfold wrap64;omega);have hih:=HIH.out;go_wp2;go_quiet (fail);have hBd:Below wr.heap.size wr (wr.drewN nq):=Yn (Below.refl _ _) nq;have hNd:NB D M s l (wr.drewN nq) q':=HN.out.same (fun b _ _=>rfl)
     have hcl:=hih o' (wr.drewN nq) (p.set i n) q' (HK.out.1 _ _ _ HJ.out hBd) hNd (fun j hj hji=>by
      by_cases e:j=i
      ·subst e;rw[PastM.get_set _ hj];exact HG.out
      ·rw[PastM.get_set_ne _ hi4 hj e];exact HQ.out j hj (by omega)) (PastM.ok_set HP.out hi4 (by omega)) (by
      have e:=congrArg List.length HE.out;rw[Xf hle,List.filter_append]at e;simp only[List.length_append]at e
      omega)
     rw[show((i+1:Nat):Int)=(i:Int)+1 from rfl]at hcl;clear hih hNd;go_wp2_with (go_at_call 131;(with_reducible refine hcl.mono ?_);rintro e w1 ⟨rfl,hJ1,q1,hN1,hq1⟩;have c1:=hN1.c i hi4;have f1:=hN1.f i hi4;have hg1:=hq1 i hi4 (.inl (by omega));rw[PastM.get_set _ hi4]at hg1;rw[hg1]at c1;have HJ1:=qd hJ1;have HN1:=qd hN1;have HQ1:=qd hq1;clear hJ1 hN1 hq1);go_roundw
     case rel =>
      refine⟨n+1,_,q1.set i (n+1),rfl,by omega,by omega,qd (PastM.get_set _ hi4 _),qd (HN1.out.put hi4 (n+1)),qd (fun j hj hji=>?_),qd (HK.out.2 _ _ _ _ HJ1.out (by have:=lt_of_cell HN1.out.n;simp only at this;omega)),qd ?_⟩
      ·rw[PastM.get_set_ne _ hi4 hj (by omega),HQ1.out j hj (by omega),PastM.get_set_ne _ hi4 hj (by omega)]
      ·rw[<-HE.out,Xf hle,List.filter_append,List.append_assoc]
     case measure=>rw[cI_of ((HN1.out.put hi4 (n+1)).c i hi4),PastM.get_set _ hi4,hm];omega
    ·have hq0:n=hi'+1:=(by omega);go_wp2;go_quiet (fail);have hBd:Below wr.heap.size wr (wr.drewN nq):=Yn (Below.refl _ _) nq;have hNd:NB D M s l (wr.drewN nq) q':=HN.out.same (fun b _ _=>rfl);have hJd:=HK.out.1 _ _ _ HJ.out hBd;have hE:=HE.out;rw[qdA (by omega),List.filter_nil,List.append_nil]at hE;rw[hE]at hJd;go_wp2;go_ret;exact⟨rfl,hJd,q',hNd,HQ.out⟩
def YI(r:Loop):Loop:={ r with state:=.busy }
def JS(r:Loop):Loop:={ r with state:=.done,pending:=some .ret }
def qdq(r:Loop):Loop:={ r with state:=.exhausted }
def overR(r:Loop):Loop:={ r with state:=.exhausted,pending:=some .ret }
def qcv(l:Nat)(r:Loop)(R:Ending->World->Prop):Exit->Act->World->Prop
 | .normal,_,W=>W.heap[l]? = some (.loop (YI r))/\R (.returned (.bool true)) (W.putObj l (.loop r))
 | .ret,_,W=>W.heap[l]? = some (.loop (YI r))/\R (.returned (.bool false)) (W.putObj l (.loop (JS r)))
 | _,_,_=>False
theorem qcF{l n:Nat}{r:Loop}{p:Tmp}{x:Value}{W:World}{R:Ending->World->Prop}(hl:W.heap[l]? = some (.loop r))(hps:r.params=#[p])(hr:r.state=.ready)(hn:r.pending=none)
 (h:r.assign.wpIn (Fence.wide.inRound l) n qp (Exit.then (fun a1 w1=>w1.heap[l]? = some (.loop r)/\r.body.wpIn (Fence.wide.inRound l) n qp (qcv l r R) a1 (w1.putObj l (.loop (YI r)))) (fun _ _ _=>False)) { tmps:=r.tmps.setIfInBounds p x,defers:=[] } W) :
 YieldAt Fence.wide n qp l #[x] W R:=by
 have ez:(r.params.zip #[x]).foldl (fun t (p,v)=>t.setIfInBounds p v) r.tmps=r.tmps.setIfInBounds p x:=by rw[hps];simp[Array.zip]
 rw[<-ez]at h;refine⟨r.fn,_,r.assign,r.body,run_yield hl (by simp[hps]),roundIn_of_wpIn trivial (wpIn_mono h fun e a1 w1 hq=>?_)⟩
 cases e with
 | normal =>
   obtain⟨h1,h2⟩:=hq;refine⟨_,run_beginRound h1 hr,wpIn_mono h2 fun e a3 W3 hp=>?_⟩
   cases e with
   | normal =>
     obtain⟨g1,g2⟩:=hp;refine⟨_,_,run_endRound none g1,?_⟩;obtain⟨s,pe,f,t,ps,asg,bo,d⟩:=r;simp only at hr hn;subst hr hn;exact g2
   | ret =>
     obtain⟨g1,g2⟩:=hp;exact⟨_,_,run_endRound (some .ret) g1,g2⟩
   | exit id=>exact hp.elim
   | goto t=>exact hp.elim
   | panic c=>exact hp.elim
   | outgrown=>exact hp.elim
 | exit id=>exact hq.elim
 | goto t=>exact hq.elim
 | ret=>exact hq.elim
 | panic c=>exact hq.elim
 | outgrown=>exact hq.elim
theorem qcD{g:Operand}{p:Tmp}{assign body:Code}{Q:Exit->Act->World->Prop}{a:Act}{w:World}{gf:FuncId}{rcv lb:Array Value}
 (hg:a.eval g=.func (.func gf) rcv lb) (eg:∀(args:Array Value) (w:World),(callFunc gf args).run qp w=.ok (.enter gf args) w)
 (h:∀r:Loop,r.state=.ready->r.pending=none->r.params=#[p]->r.tmps=a.tmps->r.assign=assign->r.body=body->∀W1,W1=(w.alloc (.deferred (some []))).alloc (.loop r) ->
   Calls qp gf (rcv ++ #[.func (.yield (w.heap.size+1)) #[] #[]]++lb) W1 fun e W=>(∃v,e=.returned v) /\
    ((W.heap[w.heap.size+1]? = some (.loop r)/\Q .normal { a with defers:={ target:=.collected w.heap.size,args:=#[] } :: a.defers } (W.putObj (w.heap.size+1) (.loop (qdq r)))) \/
     (W.heap[w.heap.size+1]? = some (.loop (JS r))/\Code.ret.wpIn Fence.wide 2 qp Q { a with defers:={ target:=.collected w.heap.size,args:=#[] } :: a.defers } (W.putObj (w.heap.size+1) (.loop (overR r)))))) :
 (Code.rangeFunc g #[p] assign body).wpIn Fence.wide 2 qp Q a w:=by
 refine wpIn_rangeFunc ?_;intro fn _;obtain⟨W1,hW1⟩:∃W1,W1=(w.alloc (.deferred (some []))).alloc (.loop { state:=.ready,pending:=none,fn,tmps:=a.tmps,params:=#[p],assign,body,defers:=w.heap.size }):=⟨_,rfl⟩;have hh:=h _ rfl rfl rfl rfl rfl rfl W1 hW1;refine⟨w.heap.size+1,[{ target:=.collected w.heap.size,args:=#[] }],W1,{ target:=.fn (.func gf) lb,args:=rcv ++ #[.func (.yield (w.heap.size+1)) #[] #[]] },W1,gf,rcv ++ #[.func (.yield (w.heap.size+1)) #[] #[]]++lb,W1,by rw[hW1];exact run_enterLoop_outer _ _ _ _ _,?_,fun _ _=>trivial,?_,(fun h=>by cases h),?_⟩
 ·simp only[resolve,hg];simp[go_sem]
 ·simp[invoke,go_sem,eg]
 ·refine callsIn_wide.2 (hh.mono fun e W hW=>?_);obtain⟨⟨v,rfl⟩,hW⟩:=hW;rcases hW with⟨h1,h2⟩|⟨h1,h2⟩
  ·exact⟨none,_,run_endLoop h1 (by simp),h2⟩
  ·exact⟨some .ret,_,run_endLoop h1 (by simp[JS]),h2⟩
structure Mod (S:Nat->Prop) (w w1:World):Prop where
 os:w1.os=w.os
 tape:w1.tape=w.tape
 output:w1.output=w.output
 size:w.heap.size<=w1.heap.size
 block:∀k,k<w.heap.size->¬S k->w1.heap[k]? = w.heap[k]?
section
variable {S:Nat->Prop} {w w1 w2:World}
theorem Mod.refl(S:Nat->Prop)(w:World):Mod S w w:=⟨rfl,rfl,rfl,ql,fun _ _ _=>rfl⟩
theorem Mod.trans(h:Mod S w w1)(k:Mod S w1 w2):Mod S w w2:=⟨k.os.trans h.os,k.tape.trans h.tape,k.output.trans h.output,Nat.le_trans h.size k.size,fun b hb hn=>(k.block b (Nat.lt_of_lt_of_le hb h.size) hn).trans (h.block b hb hn)⟩
theorem Mod.mono{S':Nat->Prop}(h:Mod S w w1)(hs:∀b,S b->S' b):Mod S' w w1:=⟨h.os,h.tape,h.output,h.size,fun k hk hn=>h.block k hk (fun e=>hn (hs k e))⟩
theorem Mod.grown{r:Option Nat}(hg:w.grownBy w1 r)(hr:∀b,r=some b->S b):Mod S w w1:=⟨hg.os,hg.tape,hg.output,hg.size,fun k hk hn=>hg.block k hk (fun e=>hn (hr k e.symm))⟩
theorem Mod.below(hB:Below w.heap.size w w1):Mod S w w1:=⟨hB.os,hB.tape,hB.output,hB.size,fun k hk _=>hB.block k hk⟩
theorem Mod.toT(h:Mod S w w1){r:Option Nat}(hr:∀b,b<w.heap.size->S b->r=some b):w.grownBy w1 r:=⟨h.os,h.tape,h.output,h.size,fun k hk hn=>h.block k hk (fun hs=>hn (hr k hk hs).symm)⟩
theorem Mod.cell(h:Mod S w w1){a:Addr}{v:Value}(hc:w.cell? a=some v)(hn:¬S a.block):w1.cell? a=some v:=(World.cell?_of_block (h.block a.block (lt_of_cell hc) hn)).trans hc
theorem Mod.frozen(h:Mod S w w1){a:Addr}{v:Value}(hc:w.cell? a=some v)(hn:¬S a.block):w1.frozen? a=w.frozen? a:=World.frozen?_of_block (h.block a.block (lt_of_cell hc) hn)
theorem Mod.owns(h:Mod S w w1){base e size n:Nat}{v:Value}{xs:List Value}(ho:w.ownsRow base e size v n xs)(hn:∀b,v.ownBlock=some b->¬S b):w1.ownsRow base e size v n xs:=by
 refine⟨ho.1,?_⟩;rcases ho.2 with hz|⟨g,cap,cur,rfl,hb,hgg,rest⟩
 ·exact .inl hz
 ·refine .inr ⟨g,cap,cur,rfl,hb,?_,rest⟩;rw[h.block g (qy hgg).1 (hn g rfl)];exact hgg
theorem KN.mod{D:DayM}{M:Nat}{A A':Nat->Prop}(h:KN D M A w)(hm:Mod S w w1)(hs:∀b,S b->A b/\b≠M)(hA:∀b,A' b->A b\/w.heap.size<=b):KN D M A' w1:=by
 obtain⟨f,h1,h2⟩:=h;refine⟨f,h1.block (hm.block M h1.lt (fun e=>(hs M e).2 rfl)),fun s v hv=>?_⟩;obtain⟨a,c,e,l,q,z⟩:=h2 s v hv;refine⟨a,c,e,l,fun hl=>?_,fun p hp=>⟨Nat.lt_of_lt_of_le (z p hp).1 hm.size,fun h9=>?_⟩⟩
 ·obtain⟨b,o,rfl,hq⟩:=q hl;have hb:=z _ rfl;exact⟨b,o,rfl,fun i x hx j v hv=>hm.cell (hq i x hx j v hv) (fun e=>hb.2 (hs _ e).1)⟩
 ·rcases hA _ h9 with h9|h9
  ·exact(z p hp).2 h9
  ·have:=(z p hp).1;omega
theorem St.mod{D:DayM}{M:Nat}{A A':Nat->Prop}{w0:World}(h:St D M A w0 w)(hm:Mod S w w1)(hs:∀b,S b->A b/\b≠M/\w0.heap.size<=b)(hA:∀b,A' b->A b\/w.heap.size<=b):St D M A' w0 w1 :=
 ⟨⟨hm.os.trans h.bel.os,hm.tape.trans h.bel.tape,hm.output.trans h.bel.output,Nat.le_trans h.bel.size hm.size,fun k hk=>(hm.block k (Nat.lt_of_lt_of_le hk h.bel.size) (fun e=>by have:=(hs k e).2.2;omega)).trans (h.bel.block k hk)⟩,h.le,h.at0,h.sm,h.ok,h.kn.mod hm (fun b e=>⟨(hs b e).1,(hs b e).2.1⟩) hA⟩
end
end Go.Proofs.Tryz
namespace Go.Proofs.Tryz
open Go Go.Load Go.LoadR Go.RowKit Go.Maps
theorem qeH{w W W1:World}{M:Nat}{r:Option Nat}(h:w.grownBy W (some M))(k:W.grownBy W1 r)(hr:∀b,r=some b->w.heap.size<=b):w.grownBy W1 (some M) :=
 ⟨k.os.trans h.os,k.tape.trans h.tape,k.output.trans h.output,Nat.le_trans h.size k.size,fun b hb hne=>(k.block b (Nat.lt_of_lt_of_le hb h.size) (fun e=>by have:=hr b e.symm;omega)).trans (h.block b hb hne)⟩
theorem zU{w W W1:World}{M:Nat}{S:Nat->Prop}(h:w.grownBy W (some M))(k:Mod S W W1)(hr:∀b,S b->w.heap.size<=b):w.grownBy W1 (some M) :=
 ⟨k.os.trans h.os,k.tape.trans h.tape,k.output.trans h.output,Nat.le_trans h.size k.size,fun b hb hne=>(k.block b (Nat.lt_of_lt_of_le hb h.size) (fun e=>by have:=hr b e;omega)).trans (h.block b hb hne)⟩
end Go.Proofs.Tryz
namespace Go.Proofs.Tryz
open Go Go.Load Go.LoadR Go.RowKit
def jS(D:DayM)(c:CalM):Nat:=match D.os.findIdx? (yC c)with
 | some k=>k
 | none=>D.os.length
theorem ordIx_at{D:DayM}{c:CalM}{k:Nat}{o:OrdM}(h:D.os[k]? = some o)(hn:∀(j:Nat) x,j<k->D.os[j]? = some x->yC c x=false)(hp:yC c o=true):jS D c=k:=by
 unfold jS
 have:D.os.findIdx? (yC c)=some k:=by
  rw[List.findIdx?_eq_some_iff_getElem];obtain⟨hk,rfl⟩:=qB h;exact⟨hk,hp,fun j hj=>by rw[hn j _ hj (qM (by omega))];simp⟩
 rw[this]
theorem qdn{D:DayM}{c:CalM}(hn:∀(j:Nat) x,j<D.os.length->D.os[j]? = some x->yC c x=false):jS D c=D.os.length:=by
 unfold jS
 have:D.os.findIdx? (yC c)=none:=by
  rw[List.findIdx?_eq_none_iff];intro x hx;obtain⟨j,hj,rfl⟩:=List.getElem_of_mem hx;exact hn j _ hj (qM hj)
 rw[this]
theorem qdo{D:DayM}{c:CalM}(h:jS D c<D.os.length):D.os[jS D c]? = some (qK D c):=by
 unfold jS at *
 cases hf:D.os.findIdx? (yC c)with
 | none=>rw[hf]at h;simp at h
 | some k =>
   have:zG D c=k:=(by unfold zG Yi;rw[hf]);exact yg this
theorem ordIx_le(D:DayM)(c:CalM):jS D c<=D.os.length:=by
 unfold jS
 cases hf:D.os.findIdx? (yC c)with
 | none=>exact ql
 | some k =>
   obtain⟨hk,_⟩:=List.findIdx?_eq_some_iff_getElem.1 hf;exact Nat.le_of_lt hk
theorem qfw{D:DayM}{c:CalM}(h:jS D c=D.os.length):qK D c=⟨0,0,[],none,0⟩:=by
 refine yf ?_;unfold jS at h;unfold zG Yi
 cases hf:D.os.findIdx? (yC c)with
 | none=>simp
 | some k =>
   rw[hf]at h;obtain⟨hk,_⟩:=List.findIdx?_eq_some_iff_getElem.1 hf;simp only at h;omega
theorem ZZ(D:DayM)(c:CalM)(w:World)(h:DayAt w D)(hs:DaySm D):Calls qp 109 #[dv D,.int .i64 c.fr,.int .i64 c.toT] w fun e w'=>e=.returned (.int .i64 (jS D c))/\Below w.heap.size w w':=by
 have hos:=h.os;have hsm:=hs.os;obtain⟨R,hR⟩:∃R,jS D c=R:=⟨_,rfl⟩;have HA:=qd fun(k:Nat) (o:OrdM) (hx:D.os[k]? = some o) (hn:∀(j:Nat) x,j<k->D.os[j]? = some x->yC c x=false) (hp:yC c o=true)=>(hR.symm.trans (ordIx_at hx hn hp));have HN:=qd fun(hn:∀(j:Nat) x,j<D.os.length->D.os[j]? = some x->yC c x=false)=>(hR.symm.trans (qdn hn));have HO:Hid (∀x:OrdM,yC c x=(x.fr==c.fr&&x.toT==c.toT)):=qd fun _=>rfl;rw[hR];clear h hs hR;obtain⟨cf,ct,co,cl,se⟩:=c;unfold dv
 generalize yC ⟨cf,ct,co,cl,se⟩=IO at *
 obtain⟨ts,ta,tc,gs,ga,gc,os,oa,oc,hs,ha,hc,cs,ca,cc⟩:=D
 simp only at *
 generalize Value.slice ta ts.length tc=x0;generalize Value.slice ga gs.length gc=x1;generalize Value.slice ha hs.length hc=x3;generalize Value.slice ca cs.length cc=x4;have HT:=qd hos;clear hos;go_enter (sf 109 f109),ntmps109;obtain⟨W,hW⟩:∃W,w.alloc (Obj.cells #[x0,x1,.slice oa os.length oc,x3,x4] 28)=W:=⟨_,rfl⟩;have h5:W.cell? ⟨w.heap.size,2,none⟩=some (.slice oa os.length oc):=by subst hW;go_cell
 have hBW:Below w.heap.size w W:=by subst hW;go_grown
 go_wp2;try rw[hW]
 clear hW;go_loopw [7] (fun i wr=>∃k:Nat,i=.int .i64 k/\k<=os.length/\wr=W/\Hid (∀(j:Nat) x,j<k->os[j]? = some x->IO x=false)) (fun i _=>os.length-(intOf i).toNat);case atStart=>exact⟨0,rfl,Nat.zero_le _,rfl,qd fun j x hj=>absurd hj (Nat.not_lt_zero _)⟩
 case round =>
  obtain⟨k,rfl,hk,rfl,HK⟩:=hrel;by_cases hlt:k<os.length
  ·obtain⟨x,hx⟩:∃x,os[k]? = some x:=⟨os[k],by simp[hlt]⟩;obtain⟨b,o,rfl,hP⟩:=HT.out (by omega);have hkc:(k:Int)<=(oc:Int):=(by omega);have hki:(k:Int)<(os.length:Int):=(by omega);have c0:=qb _ hBW (hP k x hx 0 _ rfl);have c1:=qb _ hBW (hP k x hx 1 _ rfl);simp only[Nat.add_zero]at c0;have hIO:=HO.out x
   have HNX:IO x=false->Hid (∀(j:Nat) y,j<k+1->os[j]? = some y->IO y=false):=fun h=>qd fun j y hj hy=>by
    rcases Nat.lt_succ_iff_lt_or_eq.1 hj with h1|rfl
    ·exact HK.out j y h1 hy
    ·rw[hx]at hy;cases hy;exact h
   have HAX:IO x=true->R=k:=fun h=>HA.out k x hx HK.out h;clear hP hx;obtain⟨fr,tw,ws,wa,wc⟩:=x
   simp only at *
   by_cases e1:fr=cf
   ·subst e1;by_cases e2:tw=ct
    ·subst e2;have hr:=HAX (by rw[hIO];simp);subst hr;clear HAX HNX hIO;go_wp2;go_ret;exact⟨rfl,hBW⟩
    ·have e3:(tw != ct)=true:=(by simpa using e2);have HNX:=HNX (by rw[hIO];simp[e2]);clear HAX hIO;go_wp2;go_roundw;(case rel=>exact⟨k+1,rfl,by omega,(by first|rfl|trivial),HNX⟩);case measure=>simp[intOf];omega
   ·have e3:(fr != cf)=true:=(by simpa using e1);have HNX:=HNX (by rw[hIO];simp[e1]);clear HAX hIO;go_wp2;go_roundw;(case rel=>exact⟨k+1,rfl,by omega,(by first|rfl|trivial),HNX⟩);case measure=>simp[intOf];omega
  ·obtain rfl:k=os.length:=(by omega);have hr:=HN.out HK.out;subst hr;go_wp2;go_ret;exact⟨rfl,hBW⟩
theorem jw(D:DayM)(c:CalM)(w:World)(h:DayAt w D)(hs:DaySm D):Calls qp 84 #[dv D,cvC c] w fun e w'=>e=.returned (ZO D c)/\Below w.heap.size w w':=by
 have hor:=fun W (hB:Below w.heap.size w W)=>ZZ D c W (h.keep hB) hs;have hos:=h.os;have hsm:=hs.os;have hle:=ordIx_le D c;have hsome:=@qdo D c;have hout:=@qfw D c;obtain⟨O,hO⟩:∃O,qK D c=O:=⟨_,rfl⟩;unfold ZO;rw[hO]at hsome hout⊢
 generalize jS D c=R at *
 clear hO h hs
 unfold dv at *
 unfold cvC;obtain⟨cf,ct,co,cl,se⟩:=c;obtain⟨ts,ta,tc,gs,ga,gc,os,oa,oc,hs,ha,hc,cs,ca,cc⟩:=D
 simp only at *
 generalize Value.slice ta ts.length tc=x0 at *
 generalize Value.slice ga gs.length gc=x1 at *
 generalize Value.slice ha hs.length hc=x3 at *
 generalize Value.slice ca cs.length cc=x4 at *
 have HR:=qd hor;clear hor;by_cases hlt:R<os.length
 ·have hx:=hsome hlt;obtain⟨b,o,rfl,hP⟩:=hos (by omega);have hkc:(R:Int)<=(oc:Int):=by omega
  have hki:(R:Int)<(os.length:Int):=by omega
  have hcell:=hP R O hx 2 _ rfl;obtain⟨fr,tw,ws,wa,wc⟩:=O
  simp only at *
  clear hsome hout hP hx;go_enter (sf 84 f84),ntmps84;go_wp2_with (go_at_call 109;(with_reducible refine(HR.out _ (by go_grown)).mono ?_);rintro e w1 ⟨rfl,hB1⟩;have hB2:=bcl (w:=w) (by go_grown) hB1;have hcell:=qb _ hB2 hcell;obtain⟨hc,hg⟩:=zY hB1;have hz1:=hB1.size;simp at hz1;have hz2:w.heap.size<w1.heap.size:=(by omega));go_ret;exact⟨rfl,hB2⟩
 ·have he:R=os.length:=by omega
  subst he;have hz:=hout rfl;subst hz;clear hsome hout hos;go_enter (sf 84 f84),ntmps84;go_wp2_with (go_at_call 109;(with_reducible refine(HR.out _ (by go_grown)).mono ?_);rintro e w1 ⟨rfl,hB1⟩;have hB2:=bcl (w:=w) (by go_grown) hB1;obtain⟨hc,hg⟩:=zY hB1;have hz1:=hB1.size;simp at hz1;have hz2:w.heap.size<w1.heap.size:=(by omega));go_ret;exact⟨rfl,hB2⟩
end Go.Proofs.Tryz
