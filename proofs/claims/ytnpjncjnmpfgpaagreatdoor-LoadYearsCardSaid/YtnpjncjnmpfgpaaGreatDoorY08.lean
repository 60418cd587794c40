/-
  Lemmas about the program and the machine (C27 to C36), upon which the last text of this claim rests; no condition.
-/
import Derived.IntWalk
import Derived.Test.YtnpjncjnmpfgpaaGreatDoorY06
set_option linter.unusedSimpArgs false
set_option linter.unusedVariables false
namespace Go.Proofs.Tryz
open Go Go.Load Go.RowKit
def Qx (x:Int×Int) (T:Nat):Int×Int:=low ((qL x T).1 * (qL x (T+1)).2 - (qL x (T+1)).1 * (qL x T).2) ((qL x T).2 * (qL x (T+1)).2)
def qfR (a b:Int) (T:Nat):Bool:=let p:=qL (a,b) T;let q:=qL (a,b) (T+1);decide (p.1 * q.2 < 4611686018427387904) && decide (p.2 * q.2 < 4611686018427387904) && decide (q.1 * p.2≤p.1 * q.2)
set_option maxRecDepth 100000 in
theorem qbA:(List.range 13).all (fun a=>(List.range 4).all fun b=>(List.range 7).all fun T=>qfR a (b+1) T)=true:=by decide +kernel
theorem qcu {x:Int×Int} (h1:0≤x.1) (h2:x.1≤12) (h3:1≤x.2) (h4:x.2≤4) {T:Nat} (hT:T≤6) :
 (qL x T).1 * (qL x (T+1)).2 < 4611686018427387904∧(qL x T).2 * (qL x (T+1)).2 < 4611686018427387904∧(qL x (T+1)).1 * (qL x T).2≤(qL x T).1 * (qL x (T+1)).2:=by
 obtain ⟨a,b⟩:=x
 simp only at h1 h2 h3 h4
 obtain ⟨n,rfl⟩:=Int.eq_ofNat_of_zero_le h1
 obtain ⟨k,hk⟩:=Int.eq_ofNat_of_zero_le (show 0≤b - 1 by omega)
 obtain rfl:b=(k:Int)+1:=by omega
 have h:=qbA
 rw [List.all_eq_true] at h
 have h:=h n (List.mem_range.2 (by omega))
 rw [List.all_eq_true] at h
 have h:=h k (List.mem_range.2 (by omega))
 rw [List.all_eq_true] at h
 have h:=h T (List.mem_range.2 (by omega))
 simp only [qfR,Bool.and_eq_true,decide_eq_true_eq] at h
 exact ⟨h.1.1,h.1.2,h.2⟩
theorem qeW (m:Nat) (T:Nat) (x:Int×Int) (h1:0≤x.1) (h2:x.1≤12) (h3:1≤x.2) (h4:x.2≤4) (hT:T≤7) (w:World) (hL:∃L,JB w m L) :
 Calls qf 131 #[.map (some m),fv x,.int .i64 T] w fun e w'=>e=.returned (fv (qL x T))∧ZE m w w':=by
 obtain ⟨L,hL⟩:=hL
 exact lost_any m L T x h1 h2 h3 h4 hT w hL
def zY (m:Nat) (W:World):Prop:=∃L,JB W m L
abbrev xS (w:World) (m gb xb rb T:Nat) (x:Int×Int) (W:World):Prop :=
 W.cell? ⟨xb,0,none⟩=some (.int .i64 x.1)∧W.cell? ⟨xb,1,none⟩=some (.int .i64 x.2)∧W.cell? ⟨gb,1,none⟩=some (.int .i64 T)∧W.cell? ⟨rb,0,none⟩=some (atD W ⟨rb,0,none⟩)∧W.cell? ⟨rb,1,none⟩=some (atD W ⟨rb,1,none⟩) ∧
  W.frozen? ⟨rb,0,none⟩=false∧W.frozen? ⟨rb,1,none⟩=false∧zY m W∧w.grownBy W (some m)
theorem xS.call {w W w1:World} {m gb xb rb T:Nat} {x:Int×Int} (h:xS w m gb xb rb T x W) (hB:Below W.heap.size W w1):xS w m gb xb rb T x w1:=by
 obtain ⟨a,b,c,d,e,f,g,⟨L,i⟩,j⟩:=h
 exact ⟨qb _ hB a,qb _ hB b,qb _ hB c,qR (qx (qb _ hB d)),qR (qx (qb _ hB e)),qg _ hB d f,qg _ hB e g,⟨L,i.keep hB⟩,zM j (zi hB)⟩
theorem xS.lost {w W w1:World} {m gb xb rb T:Nat} {x:Int×Int} (h:xS w m gb xb rb T x W) (hm:m < gb) (hm2:m < xb) (hm3:m < rb) (hO:ZE m W w1):xS w m gb xb rb T x w1:=by
 obtain ⟨a,b,c,d,e,f,g,⟨L,i⟩,j⟩:=h
 obtain ⟨⟨L',k⟩,q⟩:=hO
 have n1:xb≠m:=Nat.ne_of_gt hm2
 have n2:gb≠m:=Nat.ne_of_gt hm
 have n3:rb≠m:=Nat.ne_of_gt hm3
 exact ⟨qp q a n1,qp q b n1,qp q c n2,qR (qx (qp q d n3)),qR (qx (qp q e n3)),qC q d f n3,qC q e g n3,⟨L',k⟩,zM j q⟩
theorem xS.put {w W:World} {m gb xb rb T:Nat} {x:Int×Int} (u v:Value) (h:xS w m gb xb rb T x W) (h1:rb≠xb) (h2:rb≠gb) (h3:w.heap.size≤rb) (h4:m < rb):xS w m gb xb rb T x ((W.setCell ⟨rb,0,none⟩ u).setCell ⟨rb,1,none⟩ v):=by
 obtain ⟨a,b,c,d,e,f,g,⟨L,i⟩,j⟩:=h
 have n1:∀p q,(⟨rb,p,none⟩:Addr)≠⟨xb,q,none⟩:=fun p q h=>h1 (congrArg Addr.block h)
 have n2:∀p q,(⟨rb,p,none⟩:Addr)≠⟨gb,q,none⟩:=fun p q h=>h2 (congrArg Addr.block h)
 exact ⟨qc (n1 _ _) (qc (n1 _ _) a),qc (n1 _ _) (qc (n1 _ _) b),qc (n2 _ _) (qc (n2 _ _) c),qR (qA (qA (qx d))),qR (qA (qA (qx e))),by simpa using f,by simpa using g,
  ⟨L,i.block ((Below.heap_setCell _ _ _ _ (Nat.ne_of_lt h4)).trans (Below.heap_setCell _ _ _ _ (Nat.ne_of_lt h4)))⟩,yO (yO j h3 _) h3 _⟩
set_option maxHeartbeats 4000000 in
set_option maxRecDepth 100000 in
theorem qfS (m:Nat) (g:Grp) (hr T:Nat) (x:Int×Int) (hx:g.traffic[hr]? = some x) (ht:zT x) (hgT:g.trunks=T) (hT:T≤6) (w:World) (hL:∃L,JB w m L) (hf:yK w g) :
 Calls qf 120 #[.map (some m),gv g,.int .i64 hr] w fun e w'=>e=.returned (fv (Qx (low x.1 x.2) T))∧ZE m w w':=by
 obtain ⟨k1,k2,k3,k4⟩:=jV ht.1.1 ht.1.2 ht.2.1 ht.2.2
 have hof:=fun W=>YL x W ht.1.1 (by have:=ht.2.1;omega) (by have:=ht.1.2;omega) (by have:=ht.2.2;omega)
 have hlo:=fun W h=>qeW m T (low x.1 x.2) k1 k2 k3 k4 (by omega) W h
 have hlo2:=fun W h=>qeW m (T+1) (low x.1 x.2) k1 k2 k3 k4 (by omega) W h
 obtain ⟨b1,b2,b3⟩:=qcu k1 k2 k3 k4 hT
 obtain ⟨p1,p2,_⟩:=xm k1 k2 k3 k4 T (by omega)
 obtain ⟨q1,q2,_⟩:=xm k1 k2 k3 k4 (T+1) (by omega)
 have hmi:=fun W=>qam (qL (low x.1 x.2) T) (qL (low x.1 x.2) (T+1)) W p1 (by omega) q1 (by omega) b1 b2 b3
 have hlen:hr < g.traffic.length:=(List.getElem?_eq_some_iff.1 hx).1
 obtain ⟨tb,t0,hta,hpa⟩:=hf (by omega)
 obtain ⟨d0,d1⟩:=hpa hr x hx
 have hmlt:m < w.heap.size:=by obtain ⟨L,h⟩:=hL;exact h.lt
 have htl:tb < w.heap.size:=lt_of_cell d0
 have HL:=Lib.hid hL
 unfold Qx
 generalize qL (low x.1 x.2) (T+1)=q at *
 generalize qL (low x.1 x.2) T=p at *
 generalize low x.1 x.2=y at *
 generalize low (p.1 * q.2 - q.1 * p.2) (p.2 * q.2)=r at *
 simp only [gv,hgT,hta]
 simp only [fv] at *
 have hh0:(0:Int)≤(hr:Int):=Int.natCast_nonneg hr
 have hh1:(hr:Int) < (g.traffic.length:Int):=by omega
 have hc1:((T+1:Nat):Int)=(T:Int)+1:=by omega
 simp only [hc1] at hlo2
 clear b1 b2 b3 p1 p2 q1 q2 hpa hx hL hc1 ht
 go_enter s120,ntmps120
 go_wp2_with (go_at_call 46;(with_reducible refine (hof _).mono ?_);rintro e w1 ⟨rfl,hB1⟩;(first | (replace hB:=bcl (by with_reducible assumption) hB1) | (replace hB:=bcl (by go_grown) hB1) | (have hB:=hB1));(try clear hc hg hz);obtain ⟨hc,hg⟩:=qy hB;have hz:=hB.size;clear hB1;(try simp at hz);(try have hlt0:w.heap.size < w1.heap.size:=by omega))
 have hBx:=bcl (w:=w) (by go_grown) hB
 have hl1:zY m w1:=by obtain ⟨L,h⟩:=HL.out;exact ⟨L,h.keep hBx⟩
 have hX:xS w m w.heap.size w1.heap.size (w.heap.size+1) T y (w1.alloc (.cells #[.int .i64 y.1,.int .i64 y.2] 72)).drew:=by
  have c0:w1.cell? ⟨w.heap.size,1,none⟩=some (.int .i64 T):=by rw [hc _ _ (by simp <;> omega)];go_cell
  have r0:w1.cell? ⟨w.heap.size+1,0,none⟩=some (.int .i64 0):=by rw [hc _ _ (by simp <;> omega)];go_cell
  have r1:w1.cell? ⟨w.heap.size+1,1,none⟩=some (.int .i64 0):=by rw [hc _ _ (by simp <;> omega)];go_cell
  have f0:w1.frozen? ⟨w.heap.size+1,0,none⟩=false:=by rw [hg _ _ (by simp <;> omega)];go_cell
  have f1:w1.frozen? ⟨w.heap.size+1,1,none⟩=false:=by rw [hg _ _ (by simp <;> omega)];go_cell
  obtain ⟨L,h⟩:=hl1
  have hb2:Below w1.heap.size w1 (w1.alloc (.cells #[.int .i64 y.1,.int .i64 y.2] 72)).drew:=((Below.refl _ w1).alloc (Nat.le_refl _) _).drew
  exact ⟨by go_cell,by go_cell,qi c0,qR (qx (qi r0)),qR (qx (qi r1)),qm r0 f0,qm r1 f1,⟨L,h.keep hb2⟩,zi (bcl hBx hb2)⟩
 have hw:IntKind.i64.wrap ((T:Int)+1)=(T:Int)+1:=IntWalk.i64_in _ (by omega)
 clear hc hg hB HL hl1
 go_region_held3 (fun W=>W.cell? ⟨w1.heap.size,0,none⟩=some (.int .i64 y.1)∧W.cell? ⟨w1.heap.size,1,none⟩=some (.int .i64 y.2)∧W.cell? ⟨w.heap.size,1,none⟩=some (.int .i64 T)∧W.cell? ⟨w.heap.size+1,0,none⟩=some (atD W ⟨w.heap.size+1,0,none⟩)∧W.cell? ⟨w.heap.size+1,1,none⟩=some (atD W ⟨w.heap.size+1,1,none⟩) ∧
  W.frozen? ⟨w.heap.size+1,0,none⟩=false∧W.frozen? ⟨w.heap.size+1,1,none⟩=false∧zY m W∧w.grownBy W (some m))
  (first | exact hX | ((with_reducible refine xS.lost ?_ ?_ ?_ ?_ hO);assumption;omega;omega;omega) | ((with_reducible refine xS.call ?_ hB1);assumption) | ((with_reducible refine xS.put _ _ ?_ ?_ ?_ ?_ ?_);assumption;omega;omega;omega;omega))
  (first | (go_at_call 131;(first | (with_reducible refine (hlo _ ?_).mono ?_) | (with_reducible refine (hlo2 _ ?_).mono ?_));(go_split_ands;assumption);rintro e w2 ⟨rfl,hO⟩) | (go_at_call 90;refine (hmi _).mono ?_;rintro e w2 ⟨rfl,hB1⟩))
 all_goals
  go_wp2
  rename_i hH
  obtain ⟨_,_,_,u0,u1,_,_,uM,uG⟩:=hH
  exact yA results120 zW zI rfl (qR (zb (zb (qx u0)))) (qR (zb (zb (qx u1)))) ⟨rfl,uM,uG⟩
theorem YX {x:Int×Int} (h1:0≤x.1) (h2:x.1≤12) (h3:1≤x.2) (h4:x.2≤4) {T:Nat} (hT:T≤6):0≤(Qx x T).1∧(Qx x T).1 < 4611686018427387904∧1≤(Qx x T).2∧(Qx x T).2 < 4611686018427387904:=by
 obtain ⟨b1,b2,b3⟩:=qcu h1 h2 h3 h4 hT
 obtain ⟨p1,p2,_⟩:=xm h1 h2 h3 h4 T (by omega)
 obtain ⟨q1,q2,_⟩:=xm h1 h2 h3 h4 (T+1) (by omega)
 have m1:=Int.mul_nonneg q1 (show 0≤(qL x T).2 by omega)
 have m2:0 < (qL x T).2 * (qL x (T+1)).2:=Int.mul_pos (by omega) (by omega)
 unfold Qx
 obtain ⟨t1,t2,t3,t4,_⟩:=xA (a:=(qL x T).1 * (qL x (T+1)).2 - (qL x (T+1)).1 * (qL x T).2) (b:=(qL x T).2 * (qL x (T+1)).2) (by omega) m2
 exact ⟨t1,by omega,t3,by omega⟩
def yH (g:Grp) (h:Nat):Int×Int:=Qx (low (g.traffic.getD h (0,1)).1 (g.traffic.getD h (0,1)).2) g.trunks.toNat
def zh (B:Bk) (h:Nat):Nat→Int×(Int×Int)
 | 0=>(-1,(0,1))
 | k+1=>match B.gs[k]? with
   | none=>zh B h k
   | some g=>if g.trunks=7 then zh B h k else if (zh B h k).1=-1∨above (yH g h) (zh B h k).2=true then ((k:Int),yH g h) else zh B h k
theorem qbU {B:Bk} (hV:Valid B) {h:Nat} (hh:(h:Int) < B.hours):∀k,-1≤(zh B h k).1∧(zh B h k).1 < k∧0≤(zh B h k).2.1∧(zh B h k).2.1 < 4611686018427387904∧1≤(zh B h k).2.2∧(zh B h k).2.2 < 4611686018427387904
 | 0=>by simp [zh]
 | k+1=>by
   have ih:=qbU hV hh k
   simp only [zh]
   cases hg:B.gs[k]? with
   | none=>exact ⟨ih.1,by have:=ih.2.1;show (zh B h k).1 < ((k+1:Nat):Int);omega,ih.2.2⟩
   | some g =>
     simp only
     have hG:=hV.grp g (List.mem_of_getElem? hg)
     by_cases h7:g.trunks=7
     ·rw [if_pos h7];exact ⟨ih.1,by have:=ih.2.1;omega,ih.2.2⟩
     ·rw [if_neg h7]
      split
      ·have hl:h < g.traffic.length:=by have:=hG.len;omega
       have hx:=hG.traf _ (List.getElem_mem hl)
       obtain ⟨k1,k2,k3,k4⟩:=jV hx.1.1 hx.1.2 hx.2.1 hx.2.2
       have hs:=YX k1 k2 k3 k4 (T:=g.trunks.toNat) (by have:=hG.tr7;omega)
       have e:g.traffic.getD h (0,1)=g.traffic[h]:=by rw [List.getD_eq_getElem?_getD,List.getElem?_eq_getElem hl];rfl
       unfold yH
       rw [e]
       exact ⟨by show (-1:Int)≤(k:Int);omega,by show (k:Int) < ((k+1:Nat):Int);omega,hs⟩
      ·exact ⟨ih.1,by have:=ih.2.1;omega,ih.2.2⟩
structure BestS (w:World) (m:Nat) (x:Int×Int) (W:World):Prop where
 gr:w.grownBy W (some m)
 map:zY m W
 size:w.heap.size+3≤W.heap.size
 r0:W.cell? ⟨w.heap.size+1,0,none⟩=some (.int .i64 0)
 r1:W.cell? ⟨w.heap.size+1,1,none⟩=some (.int .i64 0)
 f0:W.frozen? ⟨w.heap.size+1,0,none⟩=false
 f1:W.frozen? ⟨w.heap.size+1,1,none⟩=false
 m0:W.cell? ⟨w.heap.size+1+1,0,none⟩=some (.int .i64 x.1)
 m1:W.cell? ⟨w.heap.size+1+1,1,none⟩=some (.int .i64 x.2)
 e0:W.frozen? ⟨w.heap.size+1+1,0,none⟩=false
 e1:W.frozen? ⟨w.heap.size+1+1,1,none⟩=false
theorem zY.keep {W W1:World} {m:Nat} (h:zY m W) (hB:Below W.heap.size W W1):zY m W1:=let ⟨L,h⟩:=h;⟨L,h.keep hB⟩
theorem zY.lt {W:World} {m:Nat} (h:zY m W):m < W.heap.size:=let ⟨_,h⟩:=h;h.lt
theorem zY.set {W:World} {m:Nat} (h:zY m W) {p:Addr} (hp:m≠p.block) (v:Value):zY m (W.setCell p v):=let ⟨L,h⟩:=h;⟨L,h.block (Below.heap_setCell _ _ _ _ hp)⟩
theorem BestS.call {w:World} {m:Nat} {x:Int×Int} {W W1:World} (h:BestS w m x W) (hB:Below W.heap.size W W1):BestS w m x W1 :=
 ⟨zM h.gr (zi hB),h.map.keep hB,Nat.le_trans h.size hB.size,qb _ hB h.r0,qb _ hB h.r1,qg _ hB h.r0 h.f0,qg _ hB h.r1 h.f1,qb _ hB h.m0,qb _ hB h.m1,qg _ hB h.m0 h.e0,qg _ hB h.m1 h.e1⟩
theorem BestS.one {w:World} {m:Nat} {x:Int×Int} {W W1:World} (h:BestS w m x W) (hm:m < w.heap.size) (hO:ZE m W W1):BestS w m x W1:=by
 have n1:w.heap.size+1≠m:=by omega
 have n2:w.heap.size+1+1≠m:=by omega
 exact ⟨zM h.gr hO.2,hO.1,Nat.le_trans h.size hO.2.size,qp hO.2 h.r0 n1,qp hO.2 h.r1 n1,qC hO.2 h.r0 h.f0 n1,qC hO.2 h.r1 h.f1 n1,qp hO.2 h.m0 n2,qp hO.2 h.m1 n2,qC hO.2 h.m0 h.e0 n2,qC hO.2 h.m1 h.e1 n2⟩
theorem BestS.put {w:World} {m:Nat} {x:Int×Int} {W:World} (y:Int×Int) (h:BestS w m x W) (hm:m < w.heap.size):BestS w m y ((W.setCell ⟨w.heap.size+1+1,0,none⟩ (.int .i64 y.1)).setCell ⟨w.heap.size+1+1,1,none⟩ (.int .i64 y.2)):=by
 have n1:∀p q,(⟨w.heap.size+1+1,p,none⟩:Addr)≠⟨w.heap.size+1,q,none⟩:=fun p q h=>by have:=congrArg Addr.block h;simp only at this;omega
 have hp:=ZL (.int .i64 y.1) (.int .i64 y.2) h.m0 h.m1
 exact ⟨yO (yO h.gr (by show _≤w.heap.size+1+1;omega) _) (by show _≤w.heap.size+1+1;omega) _,(h.map.set (by show m≠w.heap.size+1+1;omega) _).set (by show m≠w.heap.size+1+1;omega) _,by simpa using h.size,
  qc (n1 _ _) (qc (n1 _ _) h.r0),qc (n1 _ _) (qc (n1 _ _) h.r1),by simpa using h.f0,by simpa using h.f1,hp.1,hp.2,by simpa using h.e0,by simpa using h.e1⟩
theorem Yv {W:World} {m:Nat} (h:zY m W) {p:Addr} {v:Value} (hc:W.cell? p=some v):p.block≠m:=by
 rintro rfl
 obtain ⟨L,es,c,h1,_⟩:=h
 unfold World.cell? at hc
 rw [h1] at hc
 cases hc
theorem one_cell {w W:World} {m:Nat} (hM:zY m w) (h:w.grownBy W (some m)) {p:Addr} {v:Value} (hc:w.cell? p=some v):W.cell? p=some v:=qp h hc (Yv hM hc)
theorem yK.one {w W:World} {m:Nat} (hM:zY m w) (h:w.grownBy W (some m)) {g:Grp} (ht:yK w g):yK W g:=fun hl =>
 let ⟨b,o,e,hp⟩:=ht hl
 ⟨b,o,e,fun i x hx=>⟨one_cell hM h (hp i x hx).1,one_cell hM h (hp i x hx).2⟩⟩
def bestV (r:Int×(Int×Int)):Value:=.tuple #[.int .i64 r.1,fv r.2]
set_option maxHeartbeats 8000000 in
set_option maxRecDepth 100000 in
theorem qbV (B:Bk) (m h:Nat) (w:World) (hb:BookAt w B) (hV:Valid B) (hG:Globs w) (hL:zY m w) (hh:(h:Int) < B.hours) :
 Calls qf 76 #[bv B,.map (some m),.int .i64 h] w fun e w'=>e=.returned (bestV (zh B h B.gs.length))∧ZE m w w':=by
 have hml:=hL.lt
 obtain ⟨_,_,n0,n1⟩:=hG
 have hg0:1 < w.heap.size:=lt_of_cell n0
 have hg00:0 < w.heap.size:=Nat.lt_of_le_of_lt (Nat.zero_le _) hg0
 obtain ⟨b,o,hga,hcs⟩:=hb.row hV.len1
 have HB:=Lib.hid (qbU hV hh)
 have HV:=Lib.hid hV
 have HH:=Lib.hid hb
 have HC:=Lib.hid hcs
 have HS:Hid (∀k g,B.gs[k]? = some g→zh B h (k+1)=if g.trunks=7 then zh B h k else if (zh B h k).1=-1∨above (yH g h) (zh B h k).2=true then ((k:Int),yH g h) else zh B h k):=Lib.hid fun k g hg=>by simp only [zh,hg]
 have HZ:Hid (zh B h 0=(-1,(0,1))):=Lib.hid rfl
 have HL:=Lib.hid hL
 have HM0:=Lib.hid hL
 obtain ⟨N,hN⟩:∃N,N=zh B h:=⟨_,rfl⟩
 simp only [← hN] at HB HS HZ ⊢
 have hl4:=hV.len4
 clear hN hb hV hcs hL
 obtain ⟨lim,gr,hr,gs,ga,gc⟩:=B
 simp only at hga hh hl4
 subst hga
 unfold bestV
 simp only [bv,fv]
 go_enter s76,ntmps76
 go_wp2
 go_region
 go_wp2
 obtain ⟨W,hW⟩:∃W,(((w.alloc (Obj.cells #[.int .i64 lim.1,.int .i64 lim.2,.int .i64 gr,.int .i64 hr,.slice (some ⟨b,o,none⟩) gs.length gc] 67)).alloc (Obj.cells #[.int .i64 0,.int .i64 0] 72)).alloc (Obj.cells #[.int .i64 0,.int .i64 1] 72)).drew=W:=⟨_,rfl⟩
 have hBW:Below w.heap.size w W:=by subst hW;go_grown
 have hW0:BestS w m (0,1) W:=by
  subst hW
  exact ⟨zi hBW,HL.out.keep hBW,by simp,by go_cell,by go_cell,by go_cell,by go_cell,by go_cell,by go_cell,by go_cell,by go_cell⟩
 rw [hW]
 clear hW HL
 go_loopw [8,19] (fun gi i wr=>∃k:Nat,i=.int .i64 k∧k≤gs.length∧gi=.int .i64 (N k).1∧BestS w m (N k).2 wr) (fun _ i _=>gs.length - (intOf i).toNat)
 case atStart=>exact ⟨0,rfl,by omega,by rw [HZ.out],by rw [HZ.out];exact hW0⟩
 case round =>
  clear hW0 hBW
  obtain ⟨k,rfl,hk,rfl,hS⟩:=hrel
  have hsz:=hS.size
  have hgr:=hS.gr
  by_cases hlt:k < gs.length
  ·obtain ⟨g,hg⟩:∃g,gs[k]? = some g:=⟨gs[k],by simp [hlt]⟩
   have hm:g∈gs:=List.mem_of_getElem? hg
   obtain ⟨c0,c1,c2⟩:=HC.out k g hg
   have hbm:b≠m:=Yv HM0.out c0
   have c0:=qp hgr c0 hbm
   have c1:=qp hgr c1 hbm
   have c2:=qp hgr c2 hbm
   have hlb:b < wr.heap.size:=lt_of_cell c0
   have hlb2:b < wr.heap.size+1:=by omega
   have hGG:=HV.out.grp g hm
   obtain ⟨T,hT⟩:=Int.eq_ofNat_of_zero_le hGG.tr0
   have hT7:=hGG.tr7
   have hsn:=HS.out k g hg
   obtain ⟨v0,v1,v2,v3,v4,v5⟩:=HB.out k
   have hml2:m < wr.heap.size:=by omega
   by_cases h7:g.trunks=7
   ·rw [if_pos h7] at hsn
    rw [h7] at c1
    have HN:=Lib.hid hsn
    clear hsn hg hm h7 hT hT7 hGG
    go_wp2
    go_roundw
    case rel=>exact ⟨k+1,rfl,by omega,by rw [HN.out],by rw [HN.out];exact hS.call ((Below.refl _ wr).alloc (Nat.le_refl _) _)⟩
    case measure=>simp [intOf];omega
   ·rw [if_neg h7] at hsn
    have hT6:T≤6:=by omega
    have h7':((T:Int) == 7)=false:=by rw [beq_eq_false_iff_ne];omega
    rw [hT] at c1
    have hl:h < g.traffic.length:=by have:=hGG.len;simp only at this;omega
    have hxT:=hGG.traf _ (List.getElem_mem hl)
    have hsv:=fun W hM hF=>qfS m g h T g.traffic[h] (by simp [hl]) hxT hT hT6 W hM hF
    have eD:g.traffic.getD h (0,1)=g.traffic[h]:=by rw [List.getD_eq_getElem?_getD,List.getElem?_eq_getElem hl];rfl
    obtain ⟨k1,k2,k3,k4⟩:=jV hxT.1.1 hxT.1.2 hxT.2.1 hxT.2.2
    have hsb:=YX k1 k2 k3 k4 hT6
    have eS:yH g h=Qx (low g.traffic[h].1 g.traffic[h].2) T:=by unfold yH;rw [eD,hT,Int.toNat_natCast]
    rw [eS] at hsn
    have hF:=yK.one HM0.out hgr (HH.out.traf g hm)
    simp only [gv,hT,fv] at hsv
    have HSV:=Lib.hid (hsv (wr.alloc (.cells #[.string g.name,.int .i64 T,.slice g.ta g.traffic.length g.tc] 56)) (hS.map.keep ((Below.refl _ wr).alloc (Nat.le_refl _) _)) (hF.keep ((Below.refl _ wr).alloc (Nat.le_refl _) _)))
    clear hsv eD eS hxT k1 k2 k3 k4 hF
    generalize Qx (low g.traffic[h].1 g.traffic[h].2) T=y at *
    have hab:=fun W=>Yn y (N k).2 W hsb.1 (by have:=hsb.2.2.1;omega) v2 (by omega) hsb.2.1 hsb.2.2.2 v3 v5
    generalize N k=st at *
    obtain ⟨gi,z⟩:=st
    simp only [fv] at hsn hab hS v0 v1 ⊢
    have hS1:=hS.call ((Below.refl _ wr).alloc (Nat.le_refl _) (.cells #[.string g.name,.int .i64 T,.slice g.ta g.traffic.length g.tc] 56))
    have hsz1:wr.heap.size < (wr.alloc (.cells #[.string g.name,.int .i64 T,.slice g.ta g.traffic.length g.tc] 56)).heap.size:=by simp
    clear hm hg hT hT7 hGG hsb v2 v3 v4 v5 hS
    by_cases hgi:gi=-1
    ·rw [if_pos (.inl hgi)] at hsn
     have HN:=Lib.hid hsn
     subst hgi
     clear hsn hab
     go_wp2_with (go_at_call 120;(with_reducible refine HSV.out.mono ?_);rintro e w1 ⟨rfl,hO⟩;have hS2:=hS1.one hml hO;have hz2:=hS2.size;have g1:=hO.2.size;simp at g1;have hz3:w.heap.size+1+1 < w1.heap.size:=(by omega);obtain ⟨_,_,_,_,_,_,_,u0,u1,x0,x1⟩:=id hS2)
     go_region
     go_wp2
     go_roundw
     case rel=>exact ⟨k+1,rfl,by omega,by rw [HN.out],by rw [HN.out];exact ((hS2.put y hml).call ((Below.refl _ _).alloc (Nat.le_refl _) _)).call (Below.refl _ _).drew⟩
     case measure=>simp [intOf];omega
    ·have hgi':(gi == -1)=false:=by rw [beq_eq_false_iff_ne];exact hgi
     by_cases hab2:above y z=true
     ·rw [if_pos (.inr hab2)] at hsn
      have HN:=Lib.hid hsn
      simp only [hab2] at hab
      clear hsn hab2 hgi
      go_wp2_with (first | (go_at_call 120;(with_reducible refine HSV.out.mono ?_);rintro e w1 ⟨rfl,hO⟩;have hS2:=hS1.one hml hO;have hz2:=hS2.size;have g1:=hO.2.size;simp at g1;have hz3:w.heap.size+1+1 < w1.heap.size:=(by omega);obtain ⟨_,_,_,_,_,_,_,u0,u1,x0,x1⟩:=id hS2) | (go_at_call 47;(with_reducible refine (hab _).mono ?_);rintro e w2 ⟨rfl,hB2⟩;have hS3:=(hS2.call ((Below.refl _ _).alloc (Nat.le_refl _) (.cells #[.int .i64 y.1,.int .i64 y.2] 72))).call hB2;have y0:=qb ⟨w1.heap.size,0,none⟩ hB2 (v:=.int .i64 y.1) (by go_cell);have y1:=qb ⟨w1.heap.size,1,none⟩ hB2 (v:=.int .i64 y.2) (by go_cell);clear u0 u1 x0 x1;obtain ⟨_,_,_,_,_,_,_,u0,u1,x0,x1⟩:=id hS3))
      go_region
      go_wp2
      go_roundw
      case rel=>exact ⟨k+1,rfl,by omega,by rw [HN.out],by rw [HN.out];exact (hS3.put y hml).call (Below.refl _ _).drew⟩
      case measure=>simp [intOf];omega
     ·have hab2:above y z=false:=by simpa using hab2
      rw [if_neg (by rintro (h | h);exact hgi h;rw [hab2] at h;cases h)] at hsn
      have HN:=Lib.hid hsn
      simp only [hab2] at hab
      clear hsn hab2 hgi
      go_wp2_with (first | (go_at_call 120;(with_reducible refine HSV.out.mono ?_);rintro e w1 ⟨rfl,hO⟩;have hS2:=hS1.one hml hO;have hz2:=hS2.size;have g1:=hO.2.size;simp at g1;have hz3:w.heap.size+1+1 < w1.heap.size:=(by omega);obtain ⟨_,_,_,_,_,_,_,u0,u1,x0,x1⟩:=id hS2) | (go_at_call 47;(with_reducible refine (hab _).mono ?_);rintro e w2 ⟨rfl,hB2⟩;have hS3:=(hS2.call ((Below.refl _ _).alloc (Nat.le_refl _) (.cells #[.int .i64 y.1,.int .i64 y.2] 72))).call hB2))
      go_roundw
      case rel=>exact ⟨k+1,rfl,by omega,by rw [HN.out],by rw [HN.out];exact hS3⟩
      case measure=>simp [intOf];omega
  ·obtain rfl:k=gs.length:=by omega
   obtain ⟨q1,q2,q3,r0,r1,f0,f1,m0,m1,e0,e1⟩:=hS
   have hs1:w.heap.size+1 < wr.heap.size:=by omega
   go_wp2
   go_region
   go_wp2
   have hp:=ZL (.int .i64 (N gs.length).2.1) (.int .i64 (N gs.length).2.2) r0 r1
   refine bodyPost_ret (qdw results76 rfl rfl (yZ zW zI hp.1 hp.2)) rfl ⟨rfl,?_,?_⟩
   ·exact ((q2.set (by show m≠w.heap.size+1;omega) _).set (by show m≠w.heap.size+1;omega) _).keep (Below.refl _ _).drew
   ·exact zM (yO (yO q1 (p:=⟨w.heap.size+1,0,none⟩) (Nat.le_succ _) _) (p:=⟨w.heap.size+1,1,none⟩) (Nat.le_succ _) _) (zi (Below.refl _ _).drew)
theorem YJ (w:World):(Instr.makeMap 112 none).run qf w=.ok (.map (some w.heap.size)) (w.alloc (.map #[] 0)):=run_makeMap _ _
theorem Qg (w:World):zY w.heap.size (w.alloc (.map #[] 0)):=⟨[],#[],0,World.alloc_heap_new w _,rfl⟩
end Go.Proofs.Tryz
section
namespace Go.Proofs.Tryz
open Go Go.Load Go.RowKit Go.Maps
def QC (l:List Grp) (b:Int):List Grp:=if b=-1 then l else match l[b.toNat]? with
 | some x=>l.set b.toNat { x with trunks:=x.trunks+1 }
 | none=>l
theorem jQ:∀(l:List Grp) (k:Nat) (x:Grp) (t:Int),l[k]? = some x→qI (l.set k { x with trunks:=t })=(qI l).set (k * 3+1) (.int .i64 t)
 | [],k,x,t,h=>by simp at h
 | y :: l,0,x,t,h=>by
   obtain rfl:y=x:=by simpa using h
   rfl
 | y :: l,k+1,x,t,h=>by
   have ih:=jQ l k x t (by simpa using h)
   have e:(k+1) * 3+1=(k * 3+1)+3:=by omega
   rw [e]
   show [Value.string y.name,.int .i64 y.trunks,.slice y.ta y.traffic.length y.tc] ++ qI (l.set k _)=_
   rw [ih]
   rfl
theorem OwnAt.one {W W1:World} {g m:Nat} {xs:List Value} (h:OwnAt W g xs) (k:W.grownBy W1 (some m)) (e:g≠m):OwnAt W1 g xs:=fun i u hu=>⟨qp k (h i u hu).1 e,qC k (h i u hu).1 (h i u hu).2 e⟩
theorem Five.one {W W1:World} {b m:Nat} {v0 v1 v2 v3 v4:Value} (h:Five W b v0 v1 v2 v3 v4) (k:W.grownBy W1 (some m)) (e:b≠m):Five W1 b v0 v1 v2 v3 v4:=by
 obtain ⟨⟨a0,a1,a2,a3,a4⟩,⟨f0,f1,f2,f3,f4⟩⟩:=h
 exact ⟨⟨qp k a0 e,qp k a1 e,qp k a2 e,qp k a3 e,qp k a4 e⟩,⟨qC k a0 f0 e,qC k a1 f1 e,qC k a2 f2 e,qC k a3 f3 e,qC k a4 f4 e⟩⟩
theorem Five.at {W:World} {b c j:Nat} {v v0 v1 v2 v3 v4:Value} (h:Five W b v0 v1 v2 v3 v4) (e:c≠b):Five (W.setCell ⟨c,j,none⟩ v) b v0 v1 v2 v3 v4:=by
 obtain ⟨⟨a0,a1,a2,a3,a4⟩,⟨f0,f1,f2,f3,f4⟩⟩:=h
 have n:∀q,(⟨c,j,none⟩:Addr)≠⟨b,q,none⟩:=fun q h=>e (congrArg Addr.block h)
 exact ⟨⟨qc (n _) a0,qc (n _) a1,qc (n _) a2,qc (n _) a3,qc (n _) a4⟩,by simpa using f0,by simpa using f1,by simpa using f2,by simpa using f3,by simpa using f4⟩
theorem OwnGs.one {base g k m:Nat} {W W1:World} {l:List Grp} {tb:Nat→Nat} (h:OwnGs base W g l k tb) (hk:W.grownBy W1 (some m)) (e:g≠m) (et:∀i,i < k→tb i≠m):OwnGs base W1 g l k tb :=
 ⟨h.lo,Nat.lt_of_lt_of_le h.hi hk.size,h.row.one hk e,fun i x hi hx=>let ⟨a,b,c,d,o,f⟩:=h.ta i x hi hx;⟨a,b,Nat.lt_of_lt_of_le c hk.size,d,o.one hk (et i hi),f⟩,h.apart⟩
theorem OwnGs.trunk {base g k:Nat} {W:World} {l:List Grp} {tb:Nat→Nat} {x:Grp} (h:OwnGs base W g l l.length tb) (hx:l[k]? = some x) (t:Int) :
 OwnGs base (W.setCell ⟨g,k * 3+1,none⟩ (.int .i64 t)) g (l.set k { x with trunks:=t }) (l.set k { x with trunks:=t }).length tb:=by
 have hk:k < l.length:=(List.getElem?_eq_some_iff.1 hx).1
 rw [List.length_set]
 refine ⟨h.lo,by simpa using h.hi,?_,fun i y hi hy=>?_,h.apart⟩
 ·rw [jQ l k x t hx]
  exact h.row.set (by rw [yo];omega)
 ·by_cases e:k=i
  ·subst e
   rw [List.getElem?_set_self hk] at hy
   obtain rfl:=Option.some.inj hy
   obtain ⟨a,b,c,d,o,f⟩:=h.ta k x hi hx
   exact ⟨a,b,by simpa using c,d,o.other (Ne.symm d),f⟩
  ·rw [List.getElem?_set_ne e] at hy
   obtain ⟨a,b,c,d,o,f⟩:=h.ta i y hi hy
   exact ⟨a,b,by simpa using c,d,o.other (Ne.symm d),f⟩
structure SpSt (w:World) (B:Bk) (h q mc hc m g gc:Nat) (tb:Nat→Nat) (l:List Grp) (W:World):Prop where
 bel:Below w.heap.size w W
 own:OwnGs (q+1) W g l l.length tb
 gm:g < m
 tm:∀i,i < l.length→tb i < m
 box:Five W q (.int .i64 B.lim.1) (.int .i64 B.lim.2) (.int .i64 B.growth) (.int .i64 B.hours) (.slice (some ⟨g,0,none⟩) l.length gc)
 lo:w.heap.size≤hc
 hq:hc < q
 mm:m < mc
 mp:W.cell? ⟨mc,0,none⟩=some (.map (some m))
 hp:W.cell? ⟨hc,0,none⟩=some (.int .i64 h)
 map:zY m W
 cap:l.length≤gc
 small:l.length≤20∧∀x∈l,x.traffic.length≤20∧x.name.size≤100
variable {w W W1:World} {B:Bk} {h q mc hc m g gc:Nat} {tb:Nat→Nat} {l:List Grp}
theorem SpSt.keep (s:SpSt w B h q mc hc m g gc tb l W) (hB:Below W.heap.size W W1):SpSt w B h q mc hc m g gc tb l W1 :=
 ⟨bcl s.bel hB,s.own.keep hB,s.gm,s.tm,s.box.keep hB,s.lo,s.hq,s.mm,qb _ hB s.mp,qb _ hB s.hp,s.map.keep hB,s.cap,s.small⟩
theorem SpSt.one (s:SpSt w B h q mc hc m g gc tb l W) (hO:ZE m W W1):SpSt w B h q mc hc m g gc tb l W1:=by
 have h1:=s.own.lo
 have h2:=s.gm
 have h3:=s.lo
 have h4:=s.hq
 have h5:=s.mm
 exact ⟨s.bel.grown hO.2 s.bel.size (fun k e=>by cases e;omega),s.own.one hO.2 (by omega) (fun i hi=>by have:=s.tm i hi;omega),s.gm,s.tm,s.box.one hO.2 (by omega),s.lo,s.hq,s.mm,qp hO.2 s.mp (by show mc≠m;omega),qp hO.2 s.hp (by show hc≠m;omega),hO.1,s.cap,s.small⟩
theorem SpSt.trunk (s:SpSt w B h q mc hc m g gc tb l W) {k:Nat} {x:Grp} (hx:l[k]? = some x) (t:Int):SpSt w B h q mc hc m g gc tb (l.set k { x with trunks:=t }) (W.setCell ⟨g,k * 3+1,none⟩ (.int .i64 t)):=by
 have h1:=s.own.lo
 have h2:=s.gm
 have h3:=s.lo
 have h4:=s.hq
 have h5:=s.mm
 have n:∀b j,b≠g→(⟨g,k * 3+1,none⟩:Addr)≠⟨b,j,none⟩:=fun b j e h=>e (congrArg Addr.block h).symm
 refine ⟨s.bel.setCell (by show w.heap.size≤g;omega) _,s.own.trunk hx t,s.gm,fun i hi=>s.tm i (by simpa using hi),?_,s.lo,s.hq,s.mm,qc (n _ _ (by omega)) s.mp,qc (n _ _ (by omega)) s.hp,s.map.set (by show m≠g;omega) _,by simpa using s.cap,by simpa using s.small.1,fun y hy=>?_⟩
 ·rw [List.length_set];exact s.box.at (by omega)
 ·rcases List.mem_or_eq_of_mem_set hy with hy | rfl
  ·exact s.small.2 y hy
  ·exact s.small.2 x (List.mem_of_getElem? hx)
theorem SpSt.book (s:SpSt w B h q mc hc m g gc tb l W):BookAt W { B with gs:=l,ga:=some ⟨g,0,none⟩,gc:=gc } :=
 ⟨fun _=>⟨g,0,rfl,YN s.own.row⟩,fun x hx _=>by
   obtain ⟨i,hi,rfl⟩:=List.getElem_of_mem hx
   obtain ⟨a,_,_,_,b,_⟩:=s.own.ta i l[i] hi (by simp)
   exact ⟨tb i,0,a,YO b⟩,s.small,s.cap⟩
theorem Zi {B:Bk} {h:Nat}:∀k,k≤B.gs.length→(zh B h k).1=-1∨∃(i:Nat) (x:Grp),(zh B h k).1=i∧B.gs[i]? = some x∧x.trunks≠7
 | 0,_=>.inl rfl
 | k+1,hk=>by
   obtain ⟨x,hx⟩:∃x,B.gs[k]? = some x:=⟨B.gs[k],by simp⟩
   have ih:=Zi (B:=B) (h:=h) k (by omega)
   simp only [zh,hx]
   by_cases e:x.trunks=7
   ·rw [if_pos e];exact ih
   ·rw [if_neg e]
    split
    ·exact .inr ⟨k,x,rfl,hx,e⟩
    ·exact ih
end Go.Proofs.Tryz
end
