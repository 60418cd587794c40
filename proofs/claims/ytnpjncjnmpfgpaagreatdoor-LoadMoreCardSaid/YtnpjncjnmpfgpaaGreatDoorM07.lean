/-
  Lemmas about the program and the machine (B20 to C36), upon which the last text of this claim rests; no condition.
-/
import Derived.Deep.Cut
import Derived.Deep.CutRange
import Derived.Deep.Light
import Derived.IntWalk
import Derived.Test.YtnpjncjnmpfgpaaGreatDoorM06
set_option linter.unusedSimpArgs false
set_option linter.unusedVariables false
namespace Go.Proofs.Tryz
open Go Go.Sim Go.Load Go.RowKit
theorem qcR {w:World} {g:Grp} (h:yD w g):yQ w (.slice g.ta g.traffic.length g.tc) g.traffic:=⟨g.ta,g.tc,rfl,h⟩
set_option maxHeartbeats 8000000 in
set_option maxRecDepth 100000 in
theorem Same_yes {A B:Bk} (w:World) (hA:BookAt w A) (hB:BookAt w B) (e1:B.lim=A.lim) (e2:B.growth=A.growth) (e3:B.hours=A.hours) (hs:zh A.gs B.gs):Calls qg 19 #[bv A,bv B] w fun e w'=>e=.returned (.bool true)∧Below w.heap.size w w':=by
 obtain ⟨lim,gr,hr,gs,ga,gc⟩:=A
 obtain ⟨lim2,gr2,hr2,gs2,ga2,gc2⟩:=B
 simp only at e1 e2 e3 hs
 subst e1 e2 e3
 have hl:=hs.1
 have hsm:=hA.small
 have HA:=Lib.hid hA
 have HB:=Lib.hid hB
 have HS:=Lib.hid hs
 have h20:gs.length≤20:=hsm.1
 simp only [bv]
 rw [hl]
 clear hA hB hs hsm
 go_enter s19,ntmps19
 go_upto_region 3 with fail
 obtain ⟨W,hW⟩:∃W,W=(w.alloc (.cells #[.int .i64 lim2.1,.int .i64 lim2.2,.int .i64 gr2,.int .i64 hr2,.slice ga gs.length gc] 26)).alloc (.cells #[.int .i64 lim2.1,.int .i64 lim2.2,.int .i64 gr2,.int .i64 hr2,.slice ga2 gs.length gc2] 26):=⟨_,rfl⟩
 have k4:W.cell? ⟨w.heap.size,4,none⟩=some (.slice ga gs.length gc):=by rw [hW];go_cell
 have m4:W.cell? ⟨w.heap.size+1,4,none⟩=some (.slice ga2 gs.length gc2):=by rw [hW];go_cell
 have hBW:Below w.heap.size w W:=by rw [hW];go_grown
 have hWs:w.heap.size+1 < W.heap.size:=by rw [hW];simp
 rw [← hW]
 clear hW
 go_wp2
 go_loopw [5] (fun i wr=>∃k:Nat,i=.int .i64 k∧k≤gs.length∧Below W.heap.size W wr) (fun i _=>gs.length - (intOf i).toNat)
 case atStart=>exact ⟨0,rfl,Nat.zero_le _,.refl _ _⟩
 case round =>
  obtain ⟨k,rfl,hk,hBr⟩:=hrel
  have k4:=qb _ hBr k4
  have m4:=qb _ hBr m4
  have hBt:=Below.call hBW hBr (by omega)
  by_cases hlt:k < gs.length
  ·obtain ⟨b,o,rfl,hcs⟩:=HA.out.row (show 1≤gs.length by omega)
   obtain ⟨b2,o2,e,hcs2⟩:=HB.out.row (show 1≤gs2.length by omega)
   simp only at e
   subst e
   obtain ⟨g,hg⟩:∃g,gs[k]? = some g:=⟨gs[k],List.getElem?_eq_getElem hlt⟩
   obtain ⟨g2,hg2⟩:∃g,gs2[k]? = some g:=⟨gs2[k]'(by omega),List.getElem?_eq_getElem _⟩
   obtain ⟨s1,s2,s3⟩:=HS.out.2 k g g2 hg hg2
   obtain ⟨c0,c1,c2⟩:=hcs k g hg
   obtain ⟨d0,d1,d2⟩:=hcs2 k g2 hg2
   have c0:=qb _ hBt c0
   have c1:=qb _ hBt c1
   have c2:=qb _ hBt c2
   have d0:=qb _ hBt d0
   have d1:=qb _ hBt d1
   have d2:=qb _ hBt d2
   rw [s1] at d0
   rw [s2] at d1
   have hF1:=Lib.hid (qcR ((HA.out.traf g (List.mem_of_getElem? hg)).keep hBt))
   have hF2:=Lib.hid (qcR ((HB.out.traf g2 (List.mem_of_getElem? hg2)).keep hBt))
   have hg20:g.traffic.length≤20:=(HA.out.small.2 g (List.mem_of_getElem? hg)).1
   have hS3:=Lib.hid s3
   have k1:(k:Int) < (gs.length:Int):=by omega
   have k0:(0:Int)≤(k:Int):=Int.natCast_nonneg k
   clear hcs hcs2 hg hg2 s1 s2 s3
   go_upto_region 6 with fail
   go_cut [6,7] from 43 to 52 (fun p6 p7 wx=>∃x y:Nat,p6=.pointer (some ⟨x,0,none⟩)∧p7=.pointer (some ⟨y,0,none⟩)∧wx.cell? ⟨x,0,none⟩=some (.string g.name)∧wx.cell? ⟨x,1,none⟩=some (.int .i64 g.trunks)∧wx.cell? ⟨x,2,none⟩=some (.slice g.ta g.traffic.length g.tc)∧wx.cell? ⟨y,0,none⟩=some (.string g.name)∧wx.cell? ⟨y,1,none⟩=some (.int .i64 g.trunks)∧wx.cell? ⟨y,2,none⟩=some (.slice g2.ta g2.traffic.length g2.tc)∧Below wr.heap.size wr wx)
   case first =>
    have l1:w.heap.size < wr.heap.size:=lt_of_cell k4
    have l2:w.heap.size+1 < wr.heap.size:=lt_of_cell m4
    have l3:b < wr.heap.size:=lt_of_cell c0
    have l4:b2 < wr.heap.size:=lt_of_cell d0
    have l5:w.heap.size < wr.heap.size+1:=by omega
    have l6:w.heap.size+1 < wr.heap.size+1:=by omega
    have l7:b < wr.heap.size+1:=by omega
    have l8:b2 < wr.heap.size+1:=by omega
    clear HA HB HS hBt hBr hBW
    go_region
    all_goals
     go_wp2_with fail
     go_meet
     exact ⟨_,_,rfl,rfl,by go_cell,by go_cell,by go_cell,by go_cell,by go_cell,by go_cell,by go_grown⟩
   case rest =>
    obtain ⟨x,y,rfl,rfl,x0,x1,x2,y0,y1,y2,hB⟩:=hcut
    obtain ⟨WC,rfl⟩:∃W,W=wc:=⟨_,rfl⟩
    have hF1:yQ WC (.slice g.ta g.traffic.length g.tc) g.traffic:=by
     obtain ⟨a,c,e,h⟩:=hF1.out
     exact ⟨a,c,e,fun h1=>let ⟨b,o,e1,hp⟩:=h h1;⟨b,o,e1,hp.keep hB⟩⟩
    have hF2:yQ WC (.slice g2.ta g2.traffic.length g2.tc) g2.traffic:=by
     obtain ⟨a,c,e,h⟩:=hF2.out
     exact ⟨a,c,e,fun h1=>let ⟨b,o,e1,hp⟩:=h h1;⟨b,o,e1,hp.keep hB⟩⟩
    have hst:=xE _ _ _ _ WC hF1 hF2 (by omega) (by rw [hS3.out];omega)
    rw [decide_eq_true hS3.out.symm] at hst
    have hBc:=bcl hBr hB
    clear hF1 hF2 c0 c1 c2 d0 d1 d2 k4 m4 hB
    go_wp2_with (go_at_call 41;(with_reducible refine hst.mono ?_);rintro e w1 ⟨rfl,hB⟩)
    go_roundw
    case rel=>exact ⟨k+1,rfl,by omega,bcl hBc hB⟩
    case measure=>simp [intOf];omega
  ·obtain rfl:k=gs.length:=by omega
   go_wp2
   go_ret
   exact ⟨rfl,hBt⟩
end Go.Proofs.Tryz
namespace Go.Proofs.Tryz
open Go Go.Load Go.RowKit
def jD (x:Int×Int) (T:Nat):Int×Int:=low ((qN x T).1 * (qN x (T+1)).2 - (qN x (T+1)).1 * (qN x T).2) ((qN x T).2 * (qN x (T+1)).2)
def qgA (a b:Int) (T:Nat):Bool:=let p:=qN (a,b) T;let q:=qN (a,b) (T+1);decide (p.1 * q.2 < 4611686018427387904) && decide (p.2 * q.2 < 4611686018427387904) && decide (q.1 * p.2≤p.1 * q.2)
set_option maxRecDepth 100000 in
theorem qci:(List.range 13).all (fun a=>(List.range 4).all fun b=>(List.range 7).all fun T=>qgA a (b+1) T)=true:=by decide +kernel
theorem qdg {x:Int×Int} (h1:0≤x.1) (h2:x.1≤12) (h3:1≤x.2) (h4:x.2≤4) {T:Nat} (hT:T≤6) :
 (qN x T).1 * (qN x (T+1)).2 < 4611686018427387904∧(qN x T).2 * (qN x (T+1)).2 < 4611686018427387904∧(qN x (T+1)).1 * (qN x T).2≤(qN x T).1 * (qN x (T+1)).2:=by
 obtain ⟨a,b⟩:=x
 simp only at h1 h2 h3 h4
 obtain ⟨n,rfl⟩:=Int.eq_ofNat_of_zero_le h1
 obtain ⟨k,hk⟩:=Int.eq_ofNat_of_zero_le (show 0≤b - 1 by omega)
 obtain rfl:b=(k:Int)+1:=by omega
 have h:=qci
 rw [List.all_eq_true] at h
 have h:=h n (List.mem_range.2 (by omega))
 rw [List.all_eq_true] at h
 have h:=h k (List.mem_range.2 (by omega))
 rw [List.all_eq_true] at h
 have h:=h T (List.mem_range.2 (by omega))
 simp only [qgA,Bool.and_eq_true,decide_eq_true_eq] at h
 exact ⟨h.1.1,h.1.2,h.2⟩
theorem qfD (m:Nat) (T:Nat) (x:Int×Int) (h1:0≤x.1) (h2:x.1≤12) (h3:1≤x.2) (h4:x.2≤4) (hT:T≤7) (w:World) (hL:∃L,qac w m L) :
 Calls qg 131 #[.map (some m),fv x,.int .i64 T] w fun e w'=>e=.returned (fv (qN x T))∧ZX m w w':=by
 obtain ⟨L,hL⟩:=hL
 exact lost_any m L T x h1 h2 h3 h4 hT w hL
def yj (m:Nat) (W:World):Prop:=∃L,qac W m L
abbrev jf (w:World) (m gb xb rb T:Nat) (x:Int×Int) (W:World):Prop :=
 W.cell? ⟨xb,0,none⟩=some (.int .i64 x.1)∧W.cell? ⟨xb,1,none⟩=some (.int .i64 x.2)∧W.cell? ⟨gb,1,none⟩=some (.int .i64 T)∧W.cell? ⟨rb,0,none⟩=some (atD W ⟨rb,0,none⟩)∧W.cell? ⟨rb,1,none⟩=some (atD W ⟨rb,1,none⟩) ∧
  W.frozen? ⟨rb,0,none⟩=false∧W.frozen? ⟨rb,1,none⟩=false∧yj m W∧w.grownBy W (some m)
theorem jf.call {w W w1:World} {m gb xb rb T:Nat} {x:Int×Int} (h:jf w m gb xb rb T x W) (hB:Below W.heap.size W w1):jf w m gb xb rb T x w1:=by
 obtain ⟨a,b,c,d,e,f,g,⟨L,i⟩,j⟩:=h
 exact ⟨qb _ hB a,qb _ hB b,qb _ hB c,qK (qx (qb _ hB d)),qK (qx (qb _ hB e)),qf _ hB d f,qf _ hB e g,⟨L,i.keep hB⟩,zR j (zt hB)⟩
theorem jf.lost {w W w1:World} {m gb xb rb T:Nat} {x:Int×Int} (h:jf w m gb xb rb T x W) (hm:m < gb) (hm2:m < xb) (hm3:m < rb) (hO:ZX m W w1):jf w m gb xb rb T x w1:=by
 obtain ⟨a,b,c,d,e,f,g,⟨L,i⟩,j⟩:=h
 obtain ⟨⟨L',k⟩,q⟩:=hO
 have n1:xb≠m:=Nat.ne_of_gt hm2
 have n2:gb≠m:=Nat.ne_of_gt hm
 have n3:rb≠m:=Nat.ne_of_gt hm3
 exact ⟨qw q a n1,qw q b n1,qw q c n2,qK (qx (qw q d n3)),qK (qx (qw q e n3)),qC q d f n3,qC q e g n3,⟨L',k⟩,zR j q⟩
theorem jf.put {w W:World} {m gb xb rb T:Nat} {x:Int×Int} (u v:Value) (h:jf w m gb xb rb T x W) (h1:rb≠xb) (h2:rb≠gb) (h3:w.heap.size≤rb) (h4:m < rb):jf w m gb xb rb T x ((W.setCell ⟨rb,0,none⟩ u).setCell ⟨rb,1,none⟩ v):=by
 obtain ⟨a,b,c,d,e,f,g,⟨L,i⟩,j⟩:=h
 have n1:∀p q,(⟨rb,p,none⟩:Addr)≠⟨xb,q,none⟩:=fun p q h=>h1 (congrArg Addr.block h)
 have n2:∀p q,(⟨rb,p,none⟩:Addr)≠⟨gb,q,none⟩:=fun p q h=>h2 (congrArg Addr.block h)
 exact ⟨qc (n1 _ _) (qc (n1 _ _) a),qc (n1 _ _) (qc (n1 _ _) b),qc (n2 _ _) (qc (n2 _ _) c),qK (qy (qy (qx d))),qK (qy (qy (qx e))),by simpa using f,by simpa using g,
  ⟨L,i.block ((Below.heap_setCell _ _ _ _ (Nat.ne_of_lt h4)).trans (Below.heap_setCell _ _ _ _ (Nat.ne_of_lt h4)))⟩,yY (yY j h3 _) h3 _⟩
set_option maxHeartbeats 4000000 in
set_option maxRecDepth 100000 in
theorem qgB (m:Nat) (g:Grp) (hr T:Nat) (x:Int×Int) (hx:g.traffic[hr]? = some x) (ht:yC x) (hgT:g.trunks=T) (hT:T≤6) (w:World) (hL:∃L,qac w m L) (hf:yD w g) :
 Calls qg 120 #[.map (some m),gv g,.int .i64 hr] w fun e w'=>e=.returned (fv (jD (low x.1 x.2) T))∧ZX m w w':=by
 obtain ⟨k1,k2,k3,k4⟩:=jy ht.1.1 ht.1.2 ht.2.1 ht.2.2
 have hof:=fun W=>Xa x W ht.1.1 (by have:=ht.2.1;omega) (by have:=ht.1.2;omega) (by have:=ht.2.2;omega)
 have hlo:=fun W h=>qfD m T (low x.1 x.2) k1 k2 k3 k4 (by omega) W h
 have hlo2:=fun W h=>qfD m (T+1) (low x.1 x.2) k1 k2 k3 k4 (by omega) W h
 obtain ⟨b1,b2,b3⟩:=qdg k1 k2 k3 k4 hT
 obtain ⟨p1,p2,_⟩:=xD k1 k2 k3 k4 T (by omega)
 obtain ⟨q1,q2,_⟩:=xD k1 k2 k3 k4 (T+1) (by omega)
 have hmi:=fun W=>qaL (qN (low x.1 x.2) T) (qN (low x.1 x.2) (T+1)) W p1 (by omega) q1 (by omega) b1 b2 b3
 have hlen:hr < g.traffic.length:=(List.getElem?_eq_some_iff.1 hx).1
 obtain ⟨tb,t0,hta,hpa⟩:=hf (by omega)
 obtain ⟨d0,d1⟩:=hpa hr x hx
 have hmlt:m < w.heap.size:=by obtain ⟨L,h⟩:=hL;exact h.lt
 have htl:tb < w.heap.size:=lt_of_cell d0
 have HL:=Lib.hid hL
 unfold jD
 generalize qN (low x.1 x.2) (T+1)=q at *
 generalize qN (low x.1 x.2) T=p at *
 generalize low x.1 x.2=y at *
 generalize low (p.1 * q.2 - q.1 * p.2) (p.2 * q.2)=r at *
 simp only [gv,hgT,hta]
 simp only [fv] at *
 have hh0:(0:Int)≤(hr:Int):=Int.natCast_nonneg hr
 have hh1:(hr:Int) < (g.traffic.length:Int):=by omega
 have hc1:((T+1:Nat):Int)=(T:Int)+1:=by omega
 simp only [hc1] at hlo2
 clear b1 b2 b3 p1 p2 q1 q2 hpa hx hL hc1 ht
 go_enter s120,ntmps120
 go_wp2_with (go_at_call 46;(with_reducible refine (hof _).mono ?_);rintro e w1 ⟨rfl,hB1⟩;(first | (replace hB:=bcl (by with_reducible assumption) hB1) | (replace hB:=bcl (by go_grown) hB1) | (have hB:=hB1));(try clear hc hg hz);obtain ⟨hc,hg⟩:=qp hB;have hz:=hB.size;clear hB1;(try simp at hz);(try have hlt0:w.heap.size < w1.heap.size:=by omega))
 have hBx:=bcl (w:=w) (by go_grown) hB
 have hl1:yj m w1:=by obtain ⟨L,h⟩:=HL.out;exact ⟨L,h.keep hBx⟩
 have hX:jf w m w.heap.size w1.heap.size (w.heap.size+1) T y (w1.alloc (.cells #[.int .i64 y.1,.int .i64 y.2] 72)).drew:=by
  have c0:w1.cell? ⟨w.heap.size,1,none⟩=some (.int .i64 T):=by rw [hc _ _ (by simp <;> omega)];go_cell
  have r0:w1.cell? ⟨w.heap.size+1,0,none⟩=some (.int .i64 0):=by rw [hc _ _ (by simp <;> omega)];go_cell
  have r1:w1.cell? ⟨w.heap.size+1,1,none⟩=some (.int .i64 0):=by rw [hc _ _ (by simp <;> omega)];go_cell
  have f0:w1.frozen? ⟨w.heap.size+1,0,none⟩=false:=by rw [hg _ _ (by simp <;> omega)];go_cell
  have f1:w1.frozen? ⟨w.heap.size+1,1,none⟩=false:=by rw [hg _ _ (by simp <;> omega)];go_cell
  obtain ⟨L,h⟩:=hl1
  have hb2:Below w1.heap.size w1 (w1.alloc (.cells #[.int .i64 y.1,.int .i64 y.2] 72)).drew:=((Below.refl _ w1).alloc (Nat.le_refl _) _).drew
  exact ⟨by go_cell,by go_cell,qi c0,qK (qx (qi r0)),qK (qx (qi r1)),qm r0 f0,qm r1 f1,⟨L,h.keep hb2⟩,zt (bcl hBx hb2)⟩
 have hw:IntKind.i64.wrap ((T:Int)+1)=(T:Int)+1:=IntWalk.i64_in _ (by omega)
 clear hc hg hB HL hl1
 go_region_held3 (fun W=>W.cell? ⟨w1.heap.size,0,none⟩=some (.int .i64 y.1)∧W.cell? ⟨w1.heap.size,1,none⟩=some (.int .i64 y.2)∧W.cell? ⟨w.heap.size,1,none⟩=some (.int .i64 T)∧W.cell? ⟨w.heap.size+1,0,none⟩=some (atD W ⟨w.heap.size+1,0,none⟩)∧W.cell? ⟨w.heap.size+1,1,none⟩=some (atD W ⟨w.heap.size+1,1,none⟩) ∧
  W.frozen? ⟨w.heap.size+1,0,none⟩=false∧W.frozen? ⟨w.heap.size+1,1,none⟩=false∧yj m W∧w.grownBy W (some m))
  (first | exact hX | ((with_reducible refine jf.lost ?_ ?_ ?_ ?_ hO);assumption;omega;omega;omega) | ((with_reducible refine jf.call ?_ hB1);assumption) | ((with_reducible refine jf.put _ _ ?_ ?_ ?_ ?_ ?_);assumption;omega;omega;omega;omega))
  (first | (go_at_call 131;(first | (with_reducible refine (hlo _ ?_).mono ?_) | (with_reducible refine (hlo2 _ ?_).mono ?_));(go_split_ands;assumption);rintro e w2 ⟨rfl,hO⟩) | (go_at_call 90;refine (hmi _).mono ?_;rintro e w2 ⟨rfl,hB1⟩))
 all_goals
  go_wp2
  rename_i hH
  obtain ⟨_,_,_,u0,u1,_,_,uM,uG⟩:=hH
  exact yf results120 yc zP rfl (qK (zk (zk (qx u0)))) (qK (zk (zk (qx u1)))) ⟨rfl,uM,uG⟩
theorem jM {x:Int×Int} (h1:0≤x.1) (h2:x.1≤12) (h3:1≤x.2) (h4:x.2≤4) {T:Nat} (hT:T≤6):0≤(jD x T).1∧(jD x T).1 < 4611686018427387904∧1≤(jD x T).2∧(jD x T).2 < 4611686018427387904:=by
 obtain ⟨b1,b2,b3⟩:=qdg h1 h2 h3 h4 hT
 obtain ⟨p1,p2,_⟩:=xD h1 h2 h3 h4 T (by omega)
 obtain ⟨q1,q2,_⟩:=xD h1 h2 h3 h4 (T+1) (by omega)
 have m1:=Int.mul_nonneg q1 (show 0≤(qN x T).2 by omega)
 have m2:0 < (qN x T).2 * (qN x (T+1)).2:=Int.mul_pos (by omega) (by omega)
 unfold jD
 obtain ⟨t1,t2,t3,t4,_⟩:=xN (a:=(qN x T).1 * (qN x (T+1)).2 - (qN x (T+1)).1 * (qN x T).2) (b:=(qN x T).2 * (qN x (T+1)).2) (by omega) m2
 exact ⟨t1,by omega,t3,by omega⟩
def qo (g:Grp) (h:Nat):Int×Int:=jD (low (g.traffic.getD h (0,1)).1 (g.traffic.getD h (0,1)).2) g.trunks.toNat
def qF (B:Bk) (h:Nat):Nat→Int×(Int×Int)
 | 0=>(-1,(0,1))
 | k+1=>match B.gs[k]? with
   | none=>qF B h k
   | some g=>if g.trunks=7 then qF B h k else if (qF B h k).1=-1∨above (qo g h) (qF B h k).2=true then ((k:Int),qo g h) else qF B h k
theorem qcD {B:Bk} (hV:Valid B) {h:Nat} (hh:(h:Int) < B.hours):∀k,-1≤(qF B h k).1∧(qF B h k).1 < k∧0≤(qF B h k).2.1∧(qF B h k).2.1 < 4611686018427387904∧1≤(qF B h k).2.2∧(qF B h k).2.2 < 4611686018427387904
 | 0=>by simp [qF]
 | k+1=>by
   have ih:=qcD hV hh k
   simp only [qF]
   cases hg:B.gs[k]? with
   | none=>exact ⟨ih.1,by have:=ih.2.1;show (qF B h k).1 < ((k+1:Nat):Int);omega,ih.2.2⟩
   | some g =>
     simp only
     have hG:=hV.grp g (List.mem_of_getElem? hg)
     by_cases h7:g.trunks=7
     ·rw [if_pos h7];exact ⟨ih.1,by have:=ih.2.1;omega,ih.2.2⟩
     ·rw [if_neg h7]
      split
      ·have hl:h < g.traffic.length:=by have:=hG.len;omega
       have hx:=hG.traf _ (List.getElem_mem hl)
       obtain ⟨k1,k2,k3,k4⟩:=jy hx.1.1 hx.1.2 hx.2.1 hx.2.2
       have hs:=jM k1 k2 k3 k4 (T:=g.trunks.toNat) (by have:=hG.tr7;omega)
       have e:g.traffic.getD h (0,1)=g.traffic[h]:=by rw [List.getD_eq_getElem?_getD,List.getElem?_eq_getElem hl];rfl
       unfold qo
       rw [e]
       exact ⟨by show (-1:Int)≤(k:Int);omega,by show (k:Int) < ((k+1:Nat):Int);omega,hs⟩
      ·exact ⟨ih.1,by have:=ih.2.1;omega,ih.2.2⟩
structure BestS (w:World) (m:Nat) (x:Int×Int) (W:World):Prop where
 gr:w.grownBy W (some m)
 map:yj m W
 size:w.heap.size+3≤W.heap.size
 r0:W.cell? ⟨w.heap.size+1,0,none⟩=some (.int .i64 0)
 r1:W.cell? ⟨w.heap.size+1,1,none⟩=some (.int .i64 0)
 f0:W.frozen? ⟨w.heap.size+1,0,none⟩=false
 f1:W.frozen? ⟨w.heap.size+1,1,none⟩=false
 m0:W.cell? ⟨w.heap.size+1+1,0,none⟩=some (.int .i64 x.1)
 m1:W.cell? ⟨w.heap.size+1+1,1,none⟩=some (.int .i64 x.2)
 e0:W.frozen? ⟨w.heap.size+1+1,0,none⟩=false
 e1:W.frozen? ⟨w.heap.size+1+1,1,none⟩=false
theorem yj.keep {W W1:World} {m:Nat} (h:yj m W) (hB:Below W.heap.size W W1):yj m W1:=let ⟨L,h⟩:=h;⟨L,h.keep hB⟩
theorem yj.lt {W:World} {m:Nat} (h:yj m W):m < W.heap.size:=let ⟨_,h⟩:=h;h.lt
theorem yj.set {W:World} {m:Nat} (h:yj m W) {p:Addr} (hp:m≠p.block) (v:Value):yj m (W.setCell p v):=let ⟨L,h⟩:=h;⟨L,h.block (Below.heap_setCell _ _ _ _ hp)⟩
theorem BestS.call {w:World} {m:Nat} {x:Int×Int} {W W1:World} (h:BestS w m x W) (hB:Below W.heap.size W W1):BestS w m x W1 :=
 ⟨zR h.gr (zt hB),h.map.keep hB,Nat.le_trans h.size hB.size,qb _ hB h.r0,qb _ hB h.r1,qf _ hB h.r0 h.f0,qf _ hB h.r1 h.f1,qb _ hB h.m0,qb _ hB h.m1,qf _ hB h.m0 h.e0,qf _ hB h.m1 h.e1⟩
theorem BestS.one {w:World} {m:Nat} {x:Int×Int} {W W1:World} (h:BestS w m x W) (hm:m < w.heap.size) (hO:ZX m W W1):BestS w m x W1:=by
 have n1:w.heap.size+1≠m:=by omega
 have n2:w.heap.size+1+1≠m:=by omega
 exact ⟨zR h.gr hO.2,hO.1,Nat.le_trans h.size hO.2.size,qw hO.2 h.r0 n1,qw hO.2 h.r1 n1,qC hO.2 h.r0 h.f0 n1,qC hO.2 h.r1 h.f1 n1,qw hO.2 h.m0 n2,qw hO.2 h.m1 n2,qC hO.2 h.m0 h.e0 n2,qC hO.2 h.m1 h.e1 n2⟩
theorem BestS.put {w:World} {m:Nat} {x:Int×Int} {W:World} (y:Int×Int) (h:BestS w m x W) (hm:m < w.heap.size):BestS w m y ((W.setCell ⟨w.heap.size+1+1,0,none⟩ (.int .i64 y.1)).setCell ⟨w.heap.size+1+1,1,none⟩ (.int .i64 y.2)):=by
 have n1:∀p q,(⟨w.heap.size+1+1,p,none⟩:Addr)≠⟨w.heap.size+1,q,none⟩:=fun p q h=>by have:=congrArg Addr.block h;simp only at this;omega
 have hp:=Za (.int .i64 y.1) (.int .i64 y.2) h.m0 h.m1
 exact ⟨yY (yY h.gr (by show _≤w.heap.size+1+1;omega) _) (by show _≤w.heap.size+1+1;omega) _,(h.map.set (by show m≠w.heap.size+1+1;omega) _).set (by show m≠w.heap.size+1+1;omega) _,by simpa using h.size,
  qc (n1 _ _) (qc (n1 _ _) h.r0),qc (n1 _ _) (qc (n1 _ _) h.r1),by simpa using h.f0,by simpa using h.f1,hp.1,hp.2,by simpa using h.e0,by simpa using h.e1⟩
theorem YK {W:World} {m:Nat} (h:yj m W) {p:Addr} {v:Value} (hc:W.cell? p=some v):p.block≠m:=by
 rintro rfl
 obtain ⟨L,es,c,h1,_⟩:=h
 unfold World.cell? at hc
 rw [h1] at hc
 cases hc
theorem one_cell {w W:World} {m:Nat} (hM:yj m w) (h:w.grownBy W (some m)) {p:Addr} {v:Value} (hc:w.cell? p=some v):W.cell? p=some v:=qw h hc (YK hM hc)
theorem yD.one {w W:World} {m:Nat} (hM:yj m w) (h:w.grownBy W (some m)) {g:Grp} (ht:yD w g):yD W g:=fun hl =>
 let ⟨b,o,e,hp⟩:=ht hl
 ⟨b,o,e,fun i x hx=>⟨one_cell hM h (hp i x hx).1,one_cell hM h (hp i x hx).2⟩⟩
def bestV (r:Int×(Int×Int)):Value:=.tuple #[.int .i64 r.1,fv r.2]
set_option maxHeartbeats 8000000 in
set_option maxRecDepth 100000 in
theorem qcE (B:Bk) (m h:Nat) (w:World) (hb:BookAt w B) (hV:Valid B) (hG:Globs w) (hL:yj m w) (hh:(h:Int) < B.hours) :
 Calls qg 76 #[bv B,.map (some m),.int .i64 h] w fun e w'=>e=.returned (bestV (qF B h B.gs.length))∧ZX m w w':=by
 have hml:=hL.lt
 obtain ⟨_,_,n0,n1⟩:=hG
 have hg0:1 < w.heap.size:=lt_of_cell n0
 have hg00:0 < w.heap.size:=Nat.lt_of_le_of_lt (Nat.zero_le _) hg0
 obtain ⟨b,o,hga,hcs⟩:=hb.row hV.len1
 have HB:=Lib.hid (qcD hV hh)
 have HV:=Lib.hid hV
 have HH:=Lib.hid hb
 have HC:=Lib.hid hcs
 have HS:Hid (∀k g,B.gs[k]? = some g→qF B h (k+1)=if g.trunks=7 then qF B h k else if (qF B h k).1=-1∨above (qo g h) (qF B h k).2=true then ((k:Int),qo g h) else qF B h k):=Lib.hid fun k g hg=>by simp only [qF,hg]
 have HZ:Hid (qF B h 0=(-1,(0,1))):=Lib.hid rfl
 have HL:=Lib.hid hL
 have HM0:=Lib.hid hL
 obtain ⟨N,hN⟩:∃N,N=qF B h:=⟨_,rfl⟩
 simp only [← hN] at HB HS HZ ⊢
 have hl4:=hV.len4
 clear hN hb hV hcs hL
 obtain ⟨lim,gr,hr,gs,ga,gc⟩:=B
 simp only at hga hh hl4
 subst hga
 unfold bestV
 simp only [bv,fv]
 go_enter s76,ntmps76
 go_wp2
 go_region
 go_wp2
 obtain ⟨W,hW⟩:∃W,(((w.alloc (Obj.cells #[.int .i64 lim.1,.int .i64 lim.2,.int .i64 gr,.int .i64 hr,.slice (some ⟨b,o,none⟩) gs.length gc] 67)).alloc (Obj.cells #[.int .i64 0,.int .i64 0] 72)).alloc (Obj.cells #[.int .i64 0,.int .i64 1] 72)).drew=W:=⟨_,rfl⟩
 have hBW:Below w.heap.size w W:=by subst hW;go_grown
 have hW0:BestS w m (0,1) W:=by
  subst hW
  exact ⟨zt hBW,HL.out.keep hBW,by simp,by go_cell,by go_cell,by go_cell,by go_cell,by go_cell,by go_cell,by go_cell,by go_cell⟩
 rw [hW]
 clear hW HL
 go_loopw [8,19] (fun gi i wr=>∃k:Nat,i=.int .i64 k∧k≤gs.length∧gi=.int .i64 (N k).1∧BestS w m (N k).2 wr) (fun _ i _=>gs.length - (intOf i).toNat)
 case atStart=>exact ⟨0,rfl,by omega,by rw [HZ.out],by rw [HZ.out];exact hW0⟩
 case round =>
  clear hW0 hBW
  obtain ⟨k,rfl,hk,rfl,hS⟩:=hrel
  have hsz:=hS.size
  have hgr:=hS.gr
  by_cases hlt:k < gs.length
  ·obtain ⟨g,hg⟩:∃g,gs[k]? = some g:=⟨gs[k],by simp [hlt]⟩
   have hm:g∈gs:=List.mem_of_getElem? hg
   obtain ⟨c0,c1,c2⟩:=HC.out k g hg
   have hbm:b≠m:=YK HM0.out c0
   have c0:=qw hgr c0 hbm
   have c1:=qw hgr c1 hbm
   have c2:=qw hgr c2 hbm
   have hlb:b < wr.heap.size:=lt_of_cell c0
   have hlb2:b < wr.heap.size+1:=by omega
   have hGG:=HV.out.grp g hm
   obtain ⟨T,hT⟩:=Int.eq_ofNat_of_zero_le hGG.tr0
   have hT7:=hGG.tr7
   have hsn:=HS.out k g hg
   obtain ⟨v0,v1,v2,v3,v4,v5⟩:=HB.out k
   have hml2:m < wr.heap.size:=by omega
   by_cases h7:g.trunks=7
   ·rw [if_pos h7] at hsn
    rw [h7] at c1
    have HN:=Lib.hid hsn
    clear hsn hg hm h7 hT hT7 hGG
    go_wp2
    go_roundw
    case rel=>exact ⟨k+1,rfl,by omega,by rw [HN.out],by rw [HN.out];exact hS.call ((Below.refl _ wr).alloc (Nat.le_refl _) _)⟩
    case measure=>simp [intOf];omega
   ·rw [if_neg h7] at hsn
    have hT6:T≤6:=by omega
    have h7':((T:Int) == 7)=false:=by rw [beq_eq_false_iff_ne];omega
    rw [hT] at c1
    have hl:h < g.traffic.length:=by have:=hGG.len;simp only at this;omega
    have hxT:=hGG.traf _ (List.getElem_mem hl)
    have hsv:=fun W hM hF=>qgB m g h T g.traffic[h] (by simp [hl]) hxT hT hT6 W hM hF
    have eD:g.traffic.getD h (0,1)=g.traffic[h]:=by rw [List.getD_eq_getElem?_getD,List.getElem?_eq_getElem hl];rfl
    obtain ⟨k1,k2,k3,k4⟩:=jy hxT.1.1 hxT.1.2 hxT.2.1 hxT.2.2
    have hsb:=jM k1 k2 k3 k4 hT6
    have eS:qo g h=jD (low g.traffic[h].1 g.traffic[h].2) T:=by unfold qo;rw [eD,hT,Int.toNat_natCast]
    rw [eS] at hsn
    have hF:=yD.one HM0.out hgr (HH.out.traf g hm)
    simp only [gv,hT,fv] at hsv
    have HSV:=Lib.hid (hsv (wr.alloc (.cells #[.string g.name,.int .i64 T,.slice g.ta g.traffic.length g.tc] 56)) (hS.map.keep ((Below.refl _ wr).alloc (Nat.le_refl _) _)) (hF.keep ((Below.refl _ wr).alloc (Nat.le_refl _) _)))
    clear hsv eD eS hxT k1 k2 k3 k4 hF
    generalize jD (low g.traffic[h].1 g.traffic[h].2) T=y at *
    have hab:=fun W=>YD y (N k).2 W hsb.1 (by have:=hsb.2.2.1;omega) v2 (by omega) hsb.2.1 hsb.2.2.2 v3 v5
    generalize N k=st at *
    obtain ⟨gi,z⟩:=st
    simp only [fv] at hsn hab hS v0 v1 ⊢
    have hS1:=hS.call ((Below.refl _ wr).alloc (Nat.le_refl _) (.cells #[.string g.name,.int .i64 T,.slice g.ta g.traffic.length g.tc] 56))
    have hsz1:wr.heap.size < (wr.alloc (.cells #[.string g.name,.int .i64 T,.slice g.ta g.traffic.length g.tc] 56)).heap.size:=by simp
    clear hm hg hT hT7 hGG hsb v2 v3 v4 v5 hS
    by_cases hgi:gi=-1
    ·rw [if_pos (.inl hgi)] at hsn
     have HN:=Lib.hid hsn
     subst hgi
     clear hsn hab
     go_wp2_with (go_at_call 120;(with_reducible refine HSV.out.mono ?_);rintro e w1 ⟨rfl,hO⟩;have hS2:=hS1.one hml hO;have hz2:=hS2.size;have g1:=hO.2.size;simp at g1;have hz3:w.heap.size+1+1 < w1.heap.size:=(by omega);obtain ⟨_,_,_,_,_,_,_,u0,u1,x0,x1⟩:=id hS2)
     go_region
     go_wp2
     go_roundw
     case rel=>exact ⟨k+1,rfl,by omega,by rw [HN.out],by rw [HN.out];exact ((hS2.put y hml).call ((Below.refl _ _).alloc (Nat.le_refl _) _)).call (Below.refl _ _).drew⟩
     case measure=>simp [intOf];omega
    ·have hgi':(gi == -1)=false:=by rw [beq_eq_false_iff_ne];exact hgi
     by_cases hab2:above y z=true
     ·rw [if_pos (.inr hab2)] at hsn
      have HN:=Lib.hid hsn
      simp only [hab2] at hab
      clear hsn hab2 hgi
      go_wp2_with (first | (go_at_call 120;(with_reducible refine HSV.out.mono ?_);rintro e w1 ⟨rfl,hO⟩;have hS2:=hS1.one hml hO;have hz2:=hS2.size;have g1:=hO.2.size;simp at g1;have hz3:w.heap.size+1+1 < w1.heap.size:=(by omega);obtain ⟨_,_,_,_,_,_,_,u0,u1,x0,x1⟩:=id hS2) | (go_at_call 47;(with_reducible refine (hab _).mono ?_);rintro e w2 ⟨rfl,hB2⟩;have hS3:=(hS2.call ((Below.refl _ _).alloc (Nat.le_refl _) (.cells #[.int .i64 y.1,.int .i64 y.2] 72))).call hB2;have y0:=qb ⟨w1.heap.size,0,none⟩ hB2 (v:=.int .i64 y.1) (by go_cell);have y1:=qb ⟨w1.heap.size,1,none⟩ hB2 (v:=.int .i64 y.2) (by go_cell);clear u0 u1 x0 x1;obtain ⟨_,_,_,_,_,_,_,u0,u1,x0,x1⟩:=id hS3))
      go_region
      go_wp2
      go_roundw
      case rel=>exact ⟨k+1,rfl,by omega,by rw [HN.out],by rw [HN.out];exact (hS3.put y hml).call (Below.refl _ _).drew⟩
      case measure=>simp [intOf];omega
     ·have hab2:above y z=false:=by simpa using hab2
      rw [if_neg (by rintro (h | h);exact hgi h;rw [hab2] at h;cases h)] at hsn
      have HN:=Lib.hid hsn
      simp only [hab2] at hab
      clear hsn hab2 hgi
      go_wp2_with (first | (go_at_call 120;(with_reducible refine HSV.out.mono ?_);rintro e w1 ⟨rfl,hO⟩;have hS2:=hS1.one hml hO;have hz2:=hS2.size;have g1:=hO.2.size;simp at g1;have hz3:w.heap.size+1+1 < w1.heap.size:=(by omega);obtain ⟨_,_,_,_,_,_,_,u0,u1,x0,x1⟩:=id hS2) | (go_at_call 47;(with_reducible refine (hab _).mono ?_);rintro e w2 ⟨rfl,hB2⟩;have hS3:=(hS2.call ((Below.refl _ _).alloc (Nat.le_refl _) (.cells #[.int .i64 y.1,.int .i64 y.2] 72))).call hB2))
      go_roundw
      case rel=>exact ⟨k+1,rfl,by omega,by rw [HN.out],by rw [HN.out];exact hS3⟩
      case measure=>simp [intOf];omega
  ·obtain rfl:k=gs.length:=by omega
   obtain ⟨q1,q2,q3,r0,r1,f0,f1,m0,m1,e0,e1⟩:=hS
   have hs1:w.heap.size+1 < wr.heap.size:=by omega
   go_wp2
   go_region
   go_wp2
   have hp:=Za (.int .i64 (N gs.length).2.1) (.int .i64 (N gs.length).2.2) r0 r1
   refine bodyPost_ret (qei results76 rfl rfl (xM yc zP hp.1 hp.2)) rfl ⟨rfl,?_,?_⟩
   ·exact ((q2.set (by show m≠w.heap.size+1;omega) _).set (by show m≠w.heap.size+1;omega) _).keep (Below.refl _ _).drew
   ·exact zR (yY (yY q1 (p:=⟨w.heap.size+1,0,none⟩) (Nat.le_succ _) _) (p:=⟨w.heap.size+1,1,none⟩) (Nat.le_succ _) _) (zt (Below.refl _ _).drew)
theorem YY (w:World):(Instr.makeMap 112 none).run qg w=.ok (.map (some w.heap.size)) (w.alloc (.map #[] 0)):=run_makeMap _ _
theorem Qu (w:World):yj w.heap.size (w.alloc (.map #[] 0)):=⟨[],#[],0,World.alloc_heap_new w _,rfl⟩
end Go.Proofs.Tryz
section
namespace Go.Proofs.Tryz
open Go Go.Load Go.RowKit Go.Maps
def xy (l:List Grp) (b:Int):List Grp:=if b=-1 then l else match l[b.toNat]? with
 | some x=>l.set b.toNat { x with trunks:=x.trunks+1 }
 | none=>l
theorem xK:∀(l:List Grp) (k:Nat) (x:Grp) (t:Int),l[k]? = some x→qL (l.set k { x with trunks:=t })=(qL l).set (k * 3+1) (.int .i64 t)
 | [],k,x,t,h=>by simp at h
 | y :: l,0,x,t,h=>by
   obtain rfl:y=x:=by simpa using h
   rfl
 | y :: l,k+1,x,t,h=>by
   have ih:=xK l k x t (by simpa using h)
   have e:(k+1) * 3+1=(k * 3+1)+3:=by omega
   rw [e]
   show [Value.string y.name,.int .i64 y.trunks,.slice y.ta y.traffic.length y.tc] ++ qL (l.set k _)=_
   rw [ih]
   rfl
theorem OwnAt.one {W W1:World} {g m:Nat} {xs:List Value} (h:OwnAt W g xs) (k:W.grownBy W1 (some m)) (e:g≠m):OwnAt W1 g xs:=fun i u hu=>⟨qw k (h i u hu).1 e,qC k (h i u hu).1 (h i u hu).2 e⟩
theorem Five.one {W W1:World} {b m:Nat} {v0 v1 v2 v3 v4:Value} (h:Five W b v0 v1 v2 v3 v4) (k:W.grownBy W1 (some m)) (e:b≠m):Five W1 b v0 v1 v2 v3 v4:=by
 obtain ⟨⟨a0,a1,a2,a3,a4⟩,⟨f0,f1,f2,f3,f4⟩⟩:=h
 exact ⟨⟨qw k a0 e,qw k a1 e,qw k a2 e,qw k a3 e,qw k a4 e⟩,⟨qC k a0 f0 e,qC k a1 f1 e,qC k a2 f2 e,qC k a3 f3 e,qC k a4 f4 e⟩⟩
theorem Five.at {W:World} {b c j:Nat} {v v0 v1 v2 v3 v4:Value} (h:Five W b v0 v1 v2 v3 v4) (e:c≠b):Five (W.setCell ⟨c,j,none⟩ v) b v0 v1 v2 v3 v4:=by
 obtain ⟨⟨a0,a1,a2,a3,a4⟩,⟨f0,f1,f2,f3,f4⟩⟩:=h
 have n:∀q,(⟨c,j,none⟩:Addr)≠⟨b,q,none⟩:=fun q h=>e (congrArg Addr.block h)
 exact ⟨⟨qc (n _) a0,qc (n _) a1,qc (n _) a2,qc (n _) a3,qc (n _) a4⟩,by simpa using f0,by simpa using f1,by simpa using f2,by simpa using f3,by simpa using f4⟩
theorem OwnGs.one {base g k m:Nat} {W W1:World} {l:List Grp} {tb:Nat→Nat} (h:OwnGs base W g l k tb) (hk:W.grownBy W1 (some m)) (e:g≠m) (et:∀i,i < k→tb i≠m):OwnGs base W1 g l k tb :=
 ⟨h.lo,Nat.lt_of_lt_of_le h.hi hk.size,h.row.one hk e,fun i x hi hx=>let ⟨a,b,c,d,o,f⟩:=h.ta i x hi hx;⟨a,b,Nat.lt_of_lt_of_le c hk.size,d,o.one hk (et i hi),f⟩,h.apart⟩
theorem OwnGs.trunk {base g k:Nat} {W:World} {l:List Grp} {tb:Nat→Nat} {x:Grp} (h:OwnGs base W g l l.length tb) (hx:l[k]? = some x) (t:Int) :
 OwnGs base (W.setCell ⟨g,k * 3+1,none⟩ (.int .i64 t)) g (l.set k { x with trunks:=t }) (l.set k { x with trunks:=t }).length tb:=by
 have hk:k < l.length:=(List.getElem?_eq_some_iff.1 hx).1
 rw [List.length_set]
 refine ⟨h.lo,by simpa using h.hi,?_,fun i y hi hy=>?_,h.apart⟩
 ·rw [xK l k x t hx]
  exact h.row.set (by rw [zy];omega)
 ·by_cases e:k=i
  ·subst e
   rw [List.getElem?_set_self hk] at hy
   obtain rfl:=Option.some.inj hy
   obtain ⟨a,b,c,d,o,f⟩:=h.ta k x hi hx
   exact ⟨a,b,by simpa using c,d,o.other (Ne.symm d),f⟩
  ·rw [List.getElem?_set_ne e] at hy
   obtain ⟨a,b,c,d,o,f⟩:=h.ta i y hi hy
   exact ⟨a,b,by simpa using c,d,o.other (Ne.symm d),f⟩
structure SpSt (w:World) (B:Bk) (h q mc hc m g gc:Nat) (tb:Nat→Nat) (l:List Grp) (W:World):Prop where
 bel:Below w.heap.size w W
 own:OwnGs (q+1) W g l l.length tb
 gm:g < m
 tm:∀i,i < l.length→tb i < m
 box:Five W q (.int .i64 B.lim.1) (.int .i64 B.lim.2) (.int .i64 B.growth) (.int .i64 B.hours) (.slice (some ⟨g,0,none⟩) l.length gc)
 lo:w.heap.size≤hc
 hq:hc < q
 mm:m < mc
 mp:W.cell? ⟨mc,0,none⟩=some (.map (some m))
 hp:W.cell? ⟨hc,0,none⟩=some (.int .i64 h)
 map:yj m W
 cap:l.length≤gc
 small:l.length≤20∧∀x∈l,x.traffic.length≤20∧x.name.size≤100
variable {w W W1:World} {B:Bk} {h q mc hc m g gc:Nat} {tb:Nat→Nat} {l:List Grp}
theorem SpSt.keep (s:SpSt w B h q mc hc m g gc tb l W) (hB:Below W.heap.size W W1):SpSt w B h q mc hc m g gc tb l W1 :=
 ⟨bcl s.bel hB,s.own.keep hB,s.gm,s.tm,s.box.keep hB,s.lo,s.hq,s.mm,qb _ hB s.mp,qb _ hB s.hp,s.map.keep hB,s.cap,s.small⟩
theorem SpSt.one (s:SpSt w B h q mc hc m g gc tb l W) (hO:ZX m W W1):SpSt w B h q mc hc m g gc tb l W1:=by
 have h1:=s.own.lo
 have h2:=s.gm
 have h3:=s.lo
 have h4:=s.hq
 have h5:=s.mm
 exact ⟨s.bel.grown hO.2 s.bel.size (fun k e=>by cases e;omega),s.own.one hO.2 (by omega) (fun i hi=>by have:=s.tm i hi;omega),s.gm,s.tm,s.box.one hO.2 (by omega),s.lo,s.hq,s.mm,qw hO.2 s.mp (by show mc≠m;omega),qw hO.2 s.hp (by show hc≠m;omega),hO.1,s.cap,s.small⟩
theorem SpSt.trunk (s:SpSt w B h q mc hc m g gc tb l W) {k:Nat} {x:Grp} (hx:l[k]? = some x) (t:Int):SpSt w B h q mc hc m g gc tb (l.set k { x with trunks:=t }) (W.setCell ⟨g,k * 3+1,none⟩ (.int .i64 t)):=by
 have h1:=s.own.lo
 have h2:=s.gm
 have h3:=s.lo
 have h4:=s.hq
 have h5:=s.mm
 have n:∀b j,b≠g→(⟨g,k * 3+1,none⟩:Addr)≠⟨b,j,none⟩:=fun b j e h=>e (congrArg Addr.block h).symm
 refine ⟨s.bel.setCell (by show w.heap.size≤g;omega) _,s.own.trunk hx t,s.gm,fun i hi=>s.tm i (by simpa using hi),?_,s.lo,s.hq,s.mm,qc (n _ _ (by omega)) s.mp,qc (n _ _ (by omega)) s.hp,s.map.set (by show m≠g;omega) _,by simpa using s.cap,by simpa using s.small.1,fun y hy=>?_⟩
 ·rw [List.length_set];exact s.box.at (by omega)
 ·rcases List.mem_or_eq_of_mem_set hy with hy | rfl
  ·exact s.small.2 y hy
  ·exact s.small.2 x (List.mem_of_getElem? hx)
theorem SpSt.book (s:SpSt w B h q mc hc m g gc tb l W):BookAt W { B with gs:=l,ga:=some ⟨g,0,none⟩,gc:=gc } :=
 ⟨fun _=>⟨g,0,rfl,Xc s.own.row⟩,fun x hx _=>by
   obtain ⟨i,hi,rfl⟩:=List.getElem_of_mem hx
   obtain ⟨a,_,_,_,b,_⟩:=s.own.ta i l[i] hi (by simp)
   exact ⟨tb i,0,a,qaP b⟩,s.small,s.cap⟩
theorem ZE {B:Bk} {h:Nat}:∀k,k≤B.gs.length→(qF B h k).1=-1∨∃(i:Nat) (x:Grp),(qF B h k).1=i∧B.gs[i]? = some x∧x.trunks≠7
 | 0,_=>.inl rfl
 | k+1,hk=>by
   obtain ⟨x,hx⟩:∃x,B.gs[k]? = some x:=⟨B.gs[k],by simp⟩
   have ih:=ZE (B:=B) (h:=h) k (by omega)
   simp only [qF,hx]
   by_cases e:x.trunks=7
   ·rw [if_pos e];exact ih
   ·rw [if_neg e]
    split
    ·exact .inr ⟨k,x,rfl,hx,e⟩
    ·exact ih
end Go.Proofs.Tryz
end
