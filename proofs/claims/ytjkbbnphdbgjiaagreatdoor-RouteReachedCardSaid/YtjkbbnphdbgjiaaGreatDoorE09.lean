/-
  Lemmas about the program and the machine (Q24 to Q31), upon which the last text of this claim rests; no condition.
-/
import Derived.Shelf.Sort.Plain
import Derived.Shelf.Slices.CompactI
import Derived.Sort.OwnSortedInts
import Derived.WalkSpells
import Derived.Test.YtjkbbnphdbgjiaaGreatDoorE07
set_option linter.unusedSimpArgs false
set_option linter.unusedVariables false
set_option maxRecDepth 100000
set_option maxHeartbeats 4000000
namespace Go.Proofs.Tryz
open Go Go.Load Go.LoadR Go.RowKit Go.Maps
theorem NB.of{D:DayM}{M s l:Nat}{W:World}{q:PastM}(d6:B6 W s (.slice D.ta D.ts.length D.tc) (.slice D.ga D.gs.length D.gc) (.slice D.oa D.os.length D.oc) (.slice D.ha D.hs.length D.hc) (.slice D.ca D.cs.length D.cc) (.map (some M)))
 (y:W.cell? ⟨s+1,0,none⟩=some (.func (.yield l) #[] #[])) (n:W.cell? ⟨s+3,0,none⟩=some (.func (.func 131) #[] #[pt s,pt (s+2),pt (s+1),pt (s+3)]))
 (c0:W.cell? ⟨s+2,0,none⟩=some (.int .i64 q.a)) (c1:W.cell? ⟨s+2,1,none⟩=some (.int .i64 q.b)) (c2:W.cell? ⟨s+2,2,none⟩=some (.int .i64 q.c)) (c3:W.cell? ⟨s+2,3,none⟩=some (.int .i64 q.d))
 (f0:W.frozen? ⟨s+2,0,none⟩=false) (f1:W.frozen? ⟨s+2,1,none⟩=false) (f2:W.frozen? ⟨s+2,2,none⟩=false) (f3:W.frozen? ⟨s+2,3,none⟩=false):NB D M s l W q :=
 ⟨d6,y,n,fun i hi=>match i,hi with
   | 0,_=>c0
   | 1,_=>c1
   | 2,_=>c2
   | 3,_=>c3,fun i hi=>match i,hi with
   | 0,_=>f0
   | 1,_=>f1
   | 2,_=>f2
   | 3,_=>f3⟩
theorem qfA{D:DayM}{M l:Nat}{J:List PastM->World->Prop}(w:World)(s:Nat)(hs:w.heap.size=s)(hl:D.gs.length<=4)(hlc:D.gs.length<=D.gc)(hb:∀g∈D.gs,0<=g.lo/\g.lo<=g.hi/\g.hi<=6)
 (jg:∀o W,J o W->qi W 4 JV D.ga D.gs)
 (jr:∀o W q,J o W->s+4<=W.heap.size->q.ok->Calls qp 132 #[dm D (some M),pvP q] W fun e W'=>e=.returned (.bool (yI D q))/\J o W'/\∀b,s<=b->b<s+4->W'.heap[b]? = W.heap[b]?)
 (jk:∀o W W1,J o W->Below W.heap.size W W1->J o W1)
 (jp:∀o W i n,J o W->s+4<=W.heap.size->J o (W.setCell ⟨s+2,i,none⟩ (.int .i64 n)))
 (jy:∀o W q,J o W->o.length<(qx D).length->NB D M s l W q->q.ok->yI D q=true->YieldAt Fence.wide 1 qp l #[pvP q] W fun e W'=>e=.returned (.bool true)/\J (o++[q]) W'/\∀b,s<=b->b<s+4->W'.heap[b]? = W.heap[b]?)
 (h0:J [] w) :
 Calls qp 111 #[dm D (some M),.func (.yield l) #[] #[]] w fun e w'=>(∃v,e=.returned v)/\J (qx D) w':=by
 subst hs
 have hnx:=fun W (hJ:J [] W) (hN:NB D M w.heap.size l W ⟨0,0,0,0⟩)=>next_any hl hlc hb jg jr jk jp jy D.gs.length 0 (by omega) [] W ⟨0,0,0,0⟩ ⟨0,0,0,0⟩ hJ hN (fun _ _ _=>rfl) (fun g=>by
  match g with
  | 0=>exact⟨Int.le_refl _,(by decide:(0:Int)<=100)⟩
  | 1=>exact⟨Int.le_refl _,(by decide:(0:Int)<=100)⟩
  | 2=>exact⟨Int.le_refl _,(by decide:(0:Int)<=100)⟩
  | n+3=>exact⟨Int.le_refl _,(by decide:(0:Int)<=100)⟩) (by rw[List.length_nil,Nat.zero_add];exact ql)
 have HK:=qd (fun W=>jk [] w W h0);have HE:Hid (qx D=[]++(zw (D.gs.drop 0) 0 ⟨0,0,0,0⟩).filter (yI D)):=qd rfl;rw[HE.out];clear jg jr jk jp jy h0 hl hlc hb HE;unfold dm;have e0:((0:Nat):Int)=0:=rfl;simp only[e0]at hnx;have HX:=qd hnx;clear hnx;go_enter (sf 111 f111),ntmps111;go_wp2_with (go_at_call 131;(with_reducible refine(HX.out _ (HK.out _ (by go_grown)) (NB.of ⟨by go_cell,by go_cell,by go_cell,by go_cell,by go_cell,by go_cell⟩ (by go_cell) (by go_cell) (by go_cell) (by go_cell) (by go_cell) (by go_cell) (by go_cell) (by go_cell) (by go_cell) (by go_cell))).mono ?_);rintro e w1 ⟨rfl,hJ1,q1,hN1,hq1⟩)
 go_end0
 exact⟨⟨_,rfl⟩,hJ1⟩
end Go.Proofs.Tryz
section
namespace Go.Proofs.Tryz
open Go Go.Load Go.LoadR Go.RowKit Go.Maps
attribute [local go_sem] Oper.semAt_some
theorem qde:(qp.info? 81).map (fun i=>(i.zero,i.size,i.bytes))=some (some (.agg #[.int .i64 0,.int .i64 0,.int .i64 0,.int .i64 0]),4,32):=by kernel_rfl
theorem past_one(q:PastM):∀u∈Zx q,u.oneCell'=true:=by
 intro u hu;simp only[Zx,List.mem_cons,List.not_mem_nil,or_false]at hu;rcases hu with rfl|rfl|rfl|rfl<;>rfl
theorem yZ(W:World)(p:Addr)(v:Value):W.grownBy (W.setCell p v) (some p.block):=⟨rfl,rfl,rfl,by simp,fun k _ hne=>Below.heap_setCell _ _ _ _ (fun e=>hne (congrArg some e))⟩
theorem Jd(W:World)(x0 x1 x2 x3:Value)(t:TypeId):∀j u,[x0,x1,x2,x3][j]? = some u->(W.alloc (.cells #[x0,x1,x2,x3] t)).cell? ((⟨W.heap.size,0,none⟩:Addr).add j)=some u:=by
 intro j u hu
 match j,hu with
 | 0,hu=>simp at hu;subst hu;show World.cell? _ ⟨W.heap.size,0,none⟩=_;go_cell
 | 1,hu=>simp at hu;subst hu;show World.cell? _ ⟨W.heap.size,1,none⟩=_;go_cell
 | 2,hu=>simp at hu;subst hu;show World.cell? _ ⟨W.heap.size,2,none⟩=_;go_cell
 | 3,hu=>simp at hu;subst hu;show World.cell? _ ⟨W.heap.size,3,none⟩=_;go_cell
 | n+4,hu=>simp at hu
theorem qaz{w:World}{base:Nat}{e:TypeId}{v:Value}{l:List PastM}(h:w.ownsRow base e 4 v l.length (l.flatMap Zx)):∃a c,v=.slice a l.length c/\l.length<=c/\qi w 4 Zx a l:=by
 obtain⟨hl,⟨rfl,h0⟩|⟨g,cap,cur,rfl,hb,hg,h1,h2,h3,h4⟩⟩:=h
 ·refine⟨none,0,by rw[h0],by omega,fun hn=>by omega⟩
 ·refine⟨_,cap,rfl,h1,fun hn=>⟨g,0,rfl,fun i x hx j v hv=>?_⟩⟩
  have hj:j<4:=by
   have:=(qB hv).1;simpa[Zx]using this
  obtain⟨hi,rfl⟩:=qB hx
  have e:(l.flatMap Zx)[i*4+j]? = some v:=by
   clear h4 hb hg h1 h2 h3 hl hx hn
   induction l generalizing i with
   | nil=>simp at hi
   | cons y l ih =>
     rw[List.flatMap_cons]
     cases i with
     | zero =>
       rw[List.getElem?_append_left (by simp[Zx];omega)];simpa using hv
     | succ i =>
       rw[List.getElem?_append_right (by simp[Zx];omega)];have e:(i+1)*4+j-(Zx y).length=i*4+j:=(by simp[Zx];omega);rw[e];exact ih i (by simpa using hi) (by simpa using hv)
  rw[<-h4,List.getElem?_take]at e;split at e
  ·simp only[World.cell?,hg];simpa using e
  ·cases e
structure HJ (D:DayM) (M:Nat) (A0:Nat->Prop) (w0 w:World) (r:Loop) (outs:List PastM) (W:World):Prop where
 ex:∃v,St D M (fun b=>A0 b\/(w.heap.size<=b/\b<w.heap.size+8)\/v.ownBlock=some b) w0 W/\W.cell? ⟨w.heap.size+1,0,none⟩=some v/\W.frozen? ⟨w.heap.size+1,0,none⟩=false/\W.ownsRow (w.heap.size+8) 81 4 v outs.length (outs.flatMap Zx)
 rl:W.heap[w.heap.size+3]? = some (.loop r)
 rd:W.heap[w.heap.size+2]? = some (.deferred (some []))
 gr:w.grownBy W (some M)
section
variable {D:DayM} {M:Nat} {A0:Nat->Prop} {w0 w:World} {r:Loop} {outs:List PastM} {W W1:World}
theorem HJ.mod{S:Nat->Prop}(h:HJ D M A0 w0 w r outs W)(hM:M<w.heap.size)(hm:Mod S W W1)(hs:∀b,S b->b=w.heap.size+6)(h0:w0.heap.size<=w.heap.size):HJ D M A0 w0 w r outs W1:=by
 obtain⟨⟨v,h1,h2,h3,h4⟩,rl,rd,gr⟩:=h;have lr:=(qy rl).1;refine⟨⟨v,h1.mod hm (fun b hb=>by have:=hs b hb;subst this;exact⟨.inr (.inl ⟨by omega,by omega⟩),by omega,by omega⟩) (fun b hb=>.inl hb),hm.cell h2 (fun e=>by have:=hs _ e;simp only at this;omega),(hm.frozen h2 (fun e=>by have:=hs _ e;simp only at this;omega)).trans h3,hm.owns h4 (fun b hb e=>by have:=(h4.lt b hb).1;have:=hs _ e;omega)⟩,?_,?_,?_⟩
 ·exact(hm.block _ lr (fun e=>by have:=hs _ e;omega)).trans rl
 ·exact(hm.block _ (by omega) (fun e=>by have:=hs _ e;omega)).trans rd
 ·exact qeH gr (hm.toT (r:=some (w.heap.size+6)) (fun b _ hb=>by rw[hs b hb])) (fun b e=>by cases e;omega)
end
theorem YZ:∀(gs:List GrpM) (i:Nat) (p:PastM),(∀g∈gs,g.hi-g.lo<3)->(zw gs i p).length<=3 ^ gs.length
 | [],_,_,_=>ql
 | g::gs,i,p,h=>by
   unfold zw;have h1:=h g (List.mem_cons_self);have hl:(Qw g.lo g.hi).length<=3:=by unfold Qw;simp;omega
   have e:∀l:List Int,(l.flatMap fun n=>zw gs (i+1) (p.set i n)).length<=l.length*3 ^ gs.length:=by
    intro l
    induction l with
    | nil=>simp
    | cons n l ih =>
      rw[List.flatMap_cons,List.length_append,List.length_cons,Nat.add_mul,Nat.one_mul];have:=YZ gs (i+1) (p.set i n) (fun g hg=>h g (List.mem_cons_of_mem _ hg));omega
   refine Nat.le_trans (e _) ?_;rw[List.length_cons,Nat.pow_succ,Nat.mul_comm (3 ^ gs.length)];exact Nat.mul_le_mul_right _ hl
theorem zb{D:DayM}(hz:checkN D=0):(qx D).length<=81:=by
 have h:=YZ D.gs 0 ⟨0,0,0,0⟩ (fun g hg=>(xG D hz g hg).2.2.2);have h4:=(qY D hz).gs;have h3:3 ^ D.gs.length<=3 ^ 4:=Nat.pow_le_pow_right (by decide) h4;have hf:=List.length_filter_le (yI D) (zw D.gs 0 ⟨0,0,0,0⟩);unfold qx;omega
section
variable {D:DayM} {M:Nat} {A0:Nat->Prop} {w0 w:World} {r:Loop} {outs:List PastM} {W W1:World}
theorem HJ.right(h:HJ D M A0 w0 w r outs W)(hA:∀b,A0 b->b<w.heap.size)(hM:M<w.heap.size)(q:PastM)(hq:q.ok)(hsz:w.heap.size+8<=W.heap.size) :
 Calls qp 132 #[dm D (some M),pvP q] W fun e W'=>e=.returned (.bool (yI D q))/\HJ D M A0 w0 w r outs W'/\∀b,w.heap.size+4<=b->b<w.heap.size+8->W'.heap[b]? = W.heap[b]? := by
 obtain⟨⟨v,h1,h2,h3,h4⟩,rl,rd,gr⟩:=h;refine(qfH D M _ w0 W h1 q hq (fun b hb=>?_)).mono ?_
 ·rcases hb with hb|hb|hb
  ·have:=hA b hb;omega
  ·omega
  ·exact(h4.lt b hb).2
 ·rintro e W' ⟨he,hst,hg⟩;have hm:Mod (fun b=>b=M) W W':=Mod.grown hg (fun b e=>(qz e).symm);have lr:=(qy rl).1;refine⟨he,⟨⟨v,hst,hm.cell h2 (by simp only;omega),(hm.frozen h2 (by simp only;omega)).trans h3,hm.owns h4 (fun b hb e=>by have:=(h4.lt b hb).1;omega)⟩,(hm.block _ lr (by omega)).trans rl,(hm.block _ (by omega) (by omega)).trans rd,qw gr hg⟩,fun b h5 h6=>hm.block b (by omega) (by omega)⟩
end
theorem YV(D:DayM)(M:Nat)(A0:Nat->Prop)(w0 w:World)(h:St D M A0 w0 w)(hA:∀b,A0 b->b<w.heap.size)(hz:checkN D=0) :
 Calls qp 81 #[dm D (some M)] w fun e w'=>∃a c,e=.returned (.slice a (qx D).length c)/\(qx D).length<=c/\qi w' 4 Zx a (qx D)/\(∀p,a=some p->w.heap.size<=p.block)/\St D M A0 w0 w'/\w.grownBy w' (some M):=by
 have hml:=h.kn.lt;have hw0:=h.bel.size;have hM0:=h.le;have HST:=qd h;have HA:=qd hA;have HZ:=qd hz;clear h hA hz;unfold dm;refine callsIn_wide.1 (callsIn_of_wp_marks (n:=2) (sf 81 f81) rfl trivial (wpIn_wide.2 ?_) rfl);simp only[ntmps81,List.size_toArray,List.length_cons,List.length_nil,Nat.reduceAdd,Nat.reduceSub,Array.replicate_succ,Array.replicate_zero,List.push_toArray,List.append_toArray,List.nil_append,List.cons_append];go_wp2;refine(wpIn_wide (n:=2)).1 ?_;refine qcD (gf:=111) (rcv:=#[dm D (some M)]) (lb:=#[]) rfl (cE 111 (by decide +kernel)) ?_;intro r e1 e2 e3 e4 e5 e6 W1 hW1;simp only[World.size_alloc]at hW1⊢;have hs1:W1.heap.size=w.heap.size+4:=by rw[hW1];simp
 have hB1:Below w.heap.size w W1:=by rw[hW1];go_grown
 have hJ0:HJ D M A0 w0 w r [] W1:=by
  refine⟨⟨.slice none 0 0,(HST.out.mod (S:=fun _=>False) (Mod.refl _ _) (fun _ e=>e.elim) (fun b hb=>?_)).keep hB1,?_,?_,World.ownsRow_nil _ _ _ _⟩,?_,?_,qo hB1⟩
  ·rcases hb with hb|hb|hb
   ·exact .inl hb
   ·exact .inr hb.1
   ·cases hb
  ·rw[hW1];go_cell
  ·rw[hW1];go_cell
  ·rw[hW1];have e:=World.alloc_heap_new (((w.alloc (Obj.cells #[.slice D.ta D.ts.length D.tc,.slice D.ga D.gs.length D.gc,.slice D.oa D.os.length D.oc,.slice D.ha D.hs.length D.hc,.slice D.ca D.cs.length D.cc,.map (some M)] 73)).alloc (Obj.cells #[.slice none 0 0] 74)).alloc (.deferred (some []))) (.loop r);simpa using e
  ·rw[hW1];have e:=World.alloc_heap_new ((w.alloc (Obj.cells #[.slice D.ta D.ts.length D.tc,.slice D.ga D.gs.length D.gc,.slice D.oa D.os.length D.oc,.slice D.ha D.hs.length D.hc,.slice D.ca D.cs.length D.cc,.map (some M)] 73)).alloc (Obj.cells #[.slice none 0 0] 74)) (.deferred (some []));refine(Below.heap_alloc _ _ _ (by simp)).trans ?_;simpa using e
 refine(qfA (D:=D) (M:=M) (l:=w.heap.size+3) (J:=HJ D M A0 w0 w r) W1 (w.heap.size+4) hs1 (qY D HZ.out).gs HST.out.sm.gs.2 (fun g hg=>⟨(xG D HZ.out g hg).1,(xG D HZ.out g hg).2.1,(xG D HZ.out g hg).2.2.1⟩) (fun o W hJ=>by obtain⟨⟨v,hv,_⟩,_⟩:=hJ;exact hv.day.gs) (fun o W q hJ hsz hq=>HJ.right hJ HA.out hml q hq (by omega)) (fun o W W1 hJ hB=>HJ.mod hJ hml (S:=fun _=>False) (Mod.below hB) (fun _ e=>e.elim) (by omega)) (fun o W i n hJ hsz=>HJ.mod hJ hml (S:=fun b=>b=w.heap.size+6) (Mod.grown (yZ W _ _) (fun b e=>(qz e).symm)) (fun b e=>e) (by omega)) ?_ hJ0).mono ?_
 ·intro o W q hJ hol hN hq hrb;obtain⟨⟨v,h1,h2,h3,h4⟩,rl,rd,gr⟩:=id hJ;have h8:w.heap.size+8<=W.heap.size:=by have:=lt_of_cell hN.n;simp only at this;omega
  refine qcF rl e3 e1 e2 ?_;rw[e5,e6,e4];simp only[List.setIfInBounds_toArray,List.set_cons_zero,List.set_cons_succ];unfold pvP
  gi_wp2
  have hlr:=(qy rl).1;obtain⟨Wa,hWa⟩:∃Wa,W.alloc (Obj.cells #[.int .i64 q.a,.int .i64 q.b,.int .i64 q.c,.int .i64 q.d] 81)=Wa:=⟨_,rfl⟩;have hBa:Below W.heap.size W Wa:=by subst hWa;go_grown
  have p0:Wa.cell? ⟨W.heap.size,0,none⟩=some (.int .i64 q.a):=by subst hWa;go_cell
  have p1:Wa.cell? ⟨W.heap.size,1,none⟩=some (.int .i64 q.b):=by subst hWa;go_cell
  have p2:Wa.cell? ⟨W.heap.size,2,none⟩=some (.int .i64 q.c):=by subst hWa;go_cell
  have p3:Wa.cell? ⟨W.heap.size,3,none⟩=some (.int .i64 q.d):=by subst hWa;go_cell
  rw[hWa];refine⟨(hBa.block _ hlr).trans rl,?_⟩;have hma:Mod (fun b=>b=w.heap.size+3) Wa (Wa.putObj (w.heap.size+3) (.loop (YI r))):=Mod.grown (grownBy_putObj' _ _ _) (fun b e=>(qz e).symm);have hl2:(Wa.putObj (w.heap.size+3) (.loop (YI r))).heap[w.heap.size+3]? = some (.loop (YI r)):=World.putObj_heap_same (by have:=hBa.size;omega);obtain⟨W2,hW2⟩:∃W2,Wa.putObj (w.heap.size+3) (.loop (YI r))=W2:=⟨_,rfl⟩;rw[hW2]at hma hl2⊢;have hm2:Mod (fun b=>b=w.heap.size+3) W W2:=(Mod.below hBa).trans hma;have k1:=hm2.cell h2 (by simp only;omega);have f1:=(hm2.frozen h2 (by simp only;omega)).trans h3;have q0:=hma.cell p0 (by simp only;omega);have q1:=hma.cell p1 (by simp only;omega);have q2:=hma.cell p2 (by simp only;omega);have q3:=hma.cell p3 (by simp only;omega);have o2:=hm2.owns h4 (fun b hb e=>by have:=(h4.lt b hb).1;omega);have hs2:=hm2.size;have hlen:=zb HZ.out;obtain⟨i0,hi,hz0,hz1,hz2⟩:=info_parts qde;clear p0 p1 p2 p3 hWa hBa hma hW2 hJ0 hW1 hB1 hJ e5 e6 e4
  gi_wp2_with (gi_at_builtin;refine wpListIn_append_own_at _ rfl (.tmp 8) (.tmp 10) 74 rfl (w.heap.size+8) 81 i0 (.agg #[.int .i64 0,.int .i64 0,.int .i64 0,.int .i64 0]) 4 32 ((qF _).trans Tryz.underlying74) hi hz0 hz1 hz2 rfl (by decide) _ _ _ rfl (o2.alloc _) ⟨W2.heap.size,0,none⟩ 1 1 (Zx q) rfl rfl (Jd _ _ _ _ _ _) (past_one q) (by unfold maxLen;omega) (by omega) (by simp;omega) ?_;intro v1 w3 n1 g1 nil1 at1;obtain⟨g',cap',rfl⟩:=ownsRow_succ n1;have k2:=g1.cell (qb _ ((Below.refl _ W2).alloc ql _) k1) (fun e=>by have:=(h4.lt _ e.symm).1;simp only at this;omega);have f2:=(g1.frozen_far ⟨w.heap.size+1,0,none⟩ (lt_of_cell (qb _ ((Below.refl _ W2).alloc ql _) k1)) (fun e=>by have:=(h4.lt _ e.symm).1;simp only at this;omega)).trans (qf _ ((Below.refl _ W2).alloc ql _) k1 f1))
  obtain⟨W3a,hW3a⟩:∃X,X=W2.heap.size:=⟨_,rfl⟩;have hw3:W2.heap.size<=w3.heap.size:=by have:=g1.size;simp at this;omega
  have hm24:Mod (fun b=>b=w.heap.size+1\/v.ownBlock=some b) W2 (w3.setCell ⟨w.heap.size+1,0,none⟩ (.slice (some ⟨g',0,none⟩) (o.length+1) cap')):=((Mod.below ((Below.refl _ W2).alloc ql _)).trans (Mod.grown g1 (fun b e=>.inr e))).trans (Mod.grown (yZ _ _ _) (fun b e=>.inl (qz e).symm));have hv3:v.ownBlock≠some (w.heap.size+3):=fun e=>by have:=(h4.lt _ e).1;omega
  have hb4:=(hm24.block _ (qy hl2).1 (by rintro(e|e);omega;exact hv3 e)).trans hl2;have hn3:=n1.lt g' rfl;have c4:(w3.setCell ⟨w.heap.size+1,0,none⟩ (.slice (some ⟨g',0,none⟩) (o.length+1) cap')).cell? ⟨w.heap.size+1,0,none⟩=some (.slice (some ⟨g',0,none⟩) (o.length+1) cap'):=qA (qL k2);have f4:(w3.setCell ⟨w.heap.size+1,0,none⟩ (.slice (some ⟨g',0,none⟩) (o.length+1) cap')).frozen? ⟨w.heap.size+1,0,none⟩=false:=by simpa using f2
  have o4:=n1.kept (yZ w3 ⟨w.heap.size+1,0,none⟩ (.slice (some ⟨g',0,none⟩) (o.length+1) cap')) (.inr (by intro e;have e2:g'=w.heap.size+1:=qz e;omega));obtain⟨W4,hW4⟩:∃W4,w3.setCell ⟨w.heap.size+1,0,none⟩ (.slice (some ⟨g',0,none⟩) (o.length+1) cap')=W4:=⟨_,rfl⟩;rw[hW4]at hm24 hb4 c4 f4 o4⊢;have hmp:Mod (fun b=>b=w.heap.size+3) W4 (W4.putObj (w.heap.size+3) (.loop r)):=Mod.grown (grownBy_putObj' _ _ _) (fun b e=>(qz e).symm);have hm5:Mod (fun b=>b=w.heap.size+3\/b=w.heap.size+1\/v.ownBlock=some b) W (W4.putObj (w.heap.size+3) (.loop r)):=((hm2.mono (fun b e=>.inl e)).trans (hm24.mono (fun b e=>.inr e))).trans (hmp.mono (fun b e=>.inl e));have hvb:∀b,v.ownBlock=some b->w.heap.size+8<=b:=fun b e=>(h4.lt b e).1;refine⟨hb4,rfl,⟨⟨.slice (some ⟨g',0,none⟩) (o.length+1) cap',h1.mod hm5 (fun b hb=>?_) (fun b hb=>?_),hmp.cell c4 (by simp only;omega),(hmp.frozen c4 (by simp only;omega)).trans f4,?_⟩,World.putObj_heap_same (qy hb4).1,(hm5.block _ (qy rd).1 ?_).trans rd,zU gr hm5 (fun b hb=>?_)⟩,fun b h5 h6=>hm5.block b (by omega) ?_⟩
  ·rcases hb with rfl|rfl|hb
   ·exact⟨.inr (.inl ⟨by omega,by omega⟩),by omega,by omega⟩
   ·exact⟨.inr (.inl ⟨by omega,by omega⟩),by omega,by omega⟩
   ·have:=hvb b hb;exact⟨.inr (.inr hb),by omega,by omega⟩
  ·rcases hb with hb|hb|hb
   ·exact .inl (.inl hb)
   ·exact .inl (.inr (.inl hb))
   ·rcases at1 with at1|at1
    ·exact .inl (.inr (.inr (at1.symm.trans hb)))
    ·rw[at1]at hb;have:=qz hb;simp at this;exact .inr (by omega)
  ·rw[List.length_append,List.flatMap_append,List.flatMap_cons,List.flatMap_nil,List.append_nil];exact hmp.owns o4 (fun b hb e=>by have hb2:g'=b:=qz hb;omega)
  ·rintro(e|e|e)
   ·omega
   ·omega
   ·have:=hvb _ e;omega
  ·rcases hb with rfl|rfl|hb
   ·omega
   ·omega
   ·have:=hvb b hb;omega
  ·rintro(e|e|e)
   ·omega
   ·omega
   ·have:=hvb _ e;omega
 ·rintro e W ⟨⟨v,rfl⟩,hJ⟩;obtain⟨⟨v,h1,h2,h3,h4⟩,rl,rd,gr⟩:=id hJ;refine⟨⟨_,rfl⟩,.inl ⟨rl,?_⟩⟩;have hlr:=(qy rl).1;have hm:Mod (fun b=>w.heap.size+2<=b/\b<w.heap.size+4) W (W.putObj (w.heap.size+1+1+1) (.loop (qdq r))):=Mod.grown (grownBy_putObj' _ _ _) (fun b e=>by cases e;exact⟨by omega,by omega⟩);have hrd:=(World.putObj_heap_other (w:=W) (o:=.loop (qdq r)) (show w.heap.size+2≠w.heap.size+1+1+1 by omega)).trans rd;obtain⟨W2,hW2⟩:∃W2,W.putObj (w.heap.size+1+1+1) (.loop (qdq r))=W2:=⟨_,rfl⟩;rw[hW2]at hm hrd⊢;have k1:=hm.cell h2 (by simp only;omega);have hm2:Mod (fun b=>w.heap.size+2<=b/\b<w.heap.size+4) W (W2.putObj (w.heap.size+1+1) (.deferred none)):=hm.trans (Mod.grown (grownBy_putObj' _ _ _) (fun b e=>by cases e;exact⟨by omega,by omega⟩));have hfin:St D M A0 w0 (W2.putObj (w.heap.size+1+1) (.deferred none)):=h1.mod hm2 (fun b hb=>⟨.inr (.inl ⟨by omega,by omega⟩),by omega,by omega⟩) (fun b hb=>.inl (.inl hb));have hfg:=zU gr hm2 (fun b hb=>by omega);have ho2:=hm2.owns h4 (fun b hb e=>by have:=(h4.lt b hb).1;omega);obtain⟨a,c,rfl,hlc,hrow⟩:=qaz ho2;have hfr:∀p,a=some p->w.heap.size<=p.block:=fun p e=>by subst e;have:=(ho2.lt p.block rfl).1;omega
  have HF:=qd (qg hfin (qg hfg (qg hlc (qg hrow hfr))));clear hm hm2 hfin hfg ho2 hlc hrow hfr hW2 h1 h2 h3 h4 rl rd gr hJ hJ0 e1 e2 e3 e4 e5 e6 hB1 hW1;go_wp2;refine⟨by simp,.inl ⟨_,_,rfl,run_takeDeferred hrd,?_⟩⟩;exact⟨_,results_tmp rfl _ _ _,a,c,rfl,HF.out.2.2.1,HF.out.2.2.2.1,HF.out.2.2.2.2,HF.out.1,HF.out.2.1⟩
end Go.Proofs.Tryz
end
namespace Go.Proofs.Tryz
open Go Go.Shelf Go.Sort
def renS:Ren:=⟨fun|189=>97|125=>124|257=>123|128=>143|129=>144|294=>134|295=>135|296=>136|297=>137|298=>138|299=>139|216=>140|300=>141|301=>142|328=>146|329=>147|330=>148|331=>149|332=>150|215=>151|343=>152|n=>n,fun|28=>31|3=>3|46=>83|0=>0|51=>167|53=>169|4=>4|183=>160|182=>159|131=>164|5=>5|9=>9|218=>171|222=>175|228=>177|229=>106|n=>n,fun n=>n⟩
theorem laysS:Lays.n189 qp renS where
 mixed:=by kernel_rfl
 f125:=(sf 124 f124).trans (congrArg some (by kernel_rfl))
 f128:=(sf 143 f143).trans (congrArg some (by kernel_rfl))
 f129:=(sf 144 f144).trans (congrArg some (by kernel_rfl))
 f189:=(sf 97 f97).trans (congrArg some (by kernel_rfl))
 f215:=(sf 151 f151).trans (congrArg some (by kernel_rfl))
 f216:=(sf 140 f140).trans (congrArg some (by kernel_rfl))
 f257:=(sf 123 f123).trans (congrArg some (by kernel_rfl))
 f294:=(sf 134 f134).trans (congrArg some (by kernel_rfl))
 f295:=(sf 135 f135).trans (congrArg some (by kernel_rfl))
 f296:=(sf 136 f136).trans (congrArg some (by kernel_rfl))
 f297:=(sf 137 f137).trans (congrArg some (by kernel_rfl))
 f298:=(sf 138 f138).trans (congrArg some (by kernel_rfl))
 f299:=(sf 139 f139).trans (congrArg some (by kernel_rfl))
 f300:=(sf 141 f141).trans (congrArg some (by kernel_rfl))
 f301:=(sf 142 f142).trans (congrArg some (by kernel_rfl))
 f328:=(sf 146 f146).trans (congrArg some (by kernel_rfl))
 f329:=(sf 147 f147).trans (congrArg some (by kernel_rfl))
 f330:=(sf 148 f148).trans (congrArg some (by kernel_rfl))
 f331:=(sf 149 f149).trans (congrArg some (by kernel_rfl))
 f332:=(sf 150 f150).trans (congrArg some (by kernel_rfl))
 f343:=(sf 152 f152).trans (congrArg some (by kernel_rfl))
 t0:=(qF _).trans Tryz.underlying0
 a0:=fun w=>(qX _ w).trans (Tryz.isAgg0 w)
 z0:=fun w=>(qO _ w).trans (Tryz.sizeOf0 w)
 v0:=fun w=>(qE _ w).trans (Tryz.zeroValue0 w)
 t3:=(qF _).trans Tryz.underlying3
 a3:=fun w=>(qX _ w).trans (Tryz.isAgg3 w)
 z3:=fun w=>(qO _ w).trans (Tryz.sizeOf3 w)
 v3:=fun w=>(qE _ w).trans (Tryz.zeroValue3 w)
 t4:=(qF _).trans Tryz.underlying4
 a4:=fun w=>(qX _ w).trans (Tryz.isAgg4 w)
 z4:=fun w=>(qO _ w).trans (Tryz.sizeOf4 w)
 v4:=fun w=>(qE _ w).trans (Tryz.zeroValue4 w)
 t5:=(qF _).trans Tryz.underlying5
 a5:=fun w=>(qX _ w).trans (Tryz.isAgg5 w)
 z5:=fun w=>(qO _ w).trans (Tryz.sizeOf5 w)
 v5:=fun w=>(qE _ w).trans (Tryz.zeroValue5 w)
 t9:=(qF _).trans Tryz.underlying9
 a9:=fun w=>(qX _ w).trans (Tryz.isAgg9 w)
 z9:=fun w=>(qO _ w).trans (Tryz.sizeOf9 w)
 v9:=fun w=>(qE _ w).trans (Tryz.zeroValue9 w)
 t28:=(qF _).trans Tryz.underlying31
 a28:=fun w=>(qX _ w).trans (Tryz.isAgg31 w)
 z28:=fun w=>(qO _ w).trans (Tryz.sizeOf31 w)
 v28:=fun w=>(qE _ w).trans (Tryz.zeroValue31 w)
 t46:=(qF _).trans Tryz.underlying83
 a46:=fun w=>(qX _ w).trans (Tryz.isAgg83 w)
 z46:=fun w=>(qO _ w).trans (Tryz.sizeOf83 w)
 v46:=fun w=>(qE _ w).trans (Tryz.zeroValue83 w)
 t51:=(qF _).trans Tryz.underlying167
 a51:=fun w=>(qX _ w).trans (Tryz.isAgg167 w)
 z51:=fun w=>(qO _ w).trans (Tryz.sizeOf167 w)
 v51:=fun w=>(qE _ w).trans (Tryz.zeroValue167 w)
 t53:=(qF _).trans Tryz.underlying169
 a53:=fun w=>(qX _ w).trans (Tryz.isAgg169 w)
 z53:=fun w=>(qO _ w).trans (Tryz.sizeOf169 w)
 v53:=fun w=>(qE _ w).trans (Tryz.zeroValue169 w)
 t131:=(qF _).trans Tryz.underlying164
 a131:=fun w=>(qX _ w).trans (Tryz.isAgg164 w)
 z131:=fun w=>(qO _ w).trans (Tryz.sizeOf164 w)
 v131:=fun w=>(qE _ w).trans (Tryz.zeroValue164 w)
 t182:=(qF _).trans Tryz.underlying159
 a182:=fun w=>(qX _ w).trans (Tryz.isAgg159 w)
 z182:=fun w=>(qO _ w).trans (Tryz.sizeOf159 w)
 v182:=fun w=>(qE _ w).trans (Tryz.zeroValue159 w)
 t183:=(qF _).trans Tryz.underlying160
 a183:=fun w=>(qX _ w).trans (Tryz.isAgg160 w)
 z183:=fun w=>(qO _ w).trans (Tryz.sizeOf160 w)
 v183:=fun w=>(qE _ w).trans (Tryz.zeroValue160 w)
 t218:=(qF _).trans Tryz.underlying171
 a218:=fun w=>(qX _ w).trans (Tryz.isAgg171 w)
 z218:=fun w=>(qO _ w).trans (Tryz.sizeOf171 w)
 v218:=fun w=>(qE _ w).trans (Tryz.zeroValue171 w)
 t222:=(qF _).trans Tryz.underlying175
 a222:=fun w=>(qX _ w).trans (Tryz.isAgg175 w)
 z222:=fun w=>(qO _ w).trans (Tryz.sizeOf175 w)
 v222:=fun w=>(qE _ w).trans (Tryz.zeroValue175 w)
 t228:=(qF _).trans Tryz.underlying177
 a228:=fun w=>(qX _ w).trans (Tryz.isAgg177 w)
 z228:=fun w=>(qO _ w).trans (Tryz.sizeOf177 w)
 v228:=fun w=>(qE _ w).trans (Tryz.zeroValue177 w)
 t229:=(qF _).trans Tryz.underlying106
 a229:=fun w=>(qX _ w).trans (Tryz.isAgg106 w)
 z229:=fun w=>(qO _ w).trans (Tryz.sizeOf106 w)
 v229:=fun w=>(qE _ w).trans (Tryz.zeroValue106 w)
def renC:Ren:=⟨fun|20=>98|n=>n,fun|22=>31|3=>3|4=>4|0=>0|n=>n,fun n=>n⟩
theorem laysC:Lays2.n20 qp renC where
 mixed:=by kernel_rfl
 f20:=(sf 98 f98).trans (congrArg some (by kernel_rfl))
 t0:=(qF _).trans Tryz.underlying0
 a0:=fun w=>(qX _ w).trans (Tryz.isAgg0 w)
 z0:=fun w=>(qO _ w).trans (Tryz.sizeOf0 w)
 v0:=fun w=>(qE _ w).trans (Tryz.zeroValue0 w)
 t3:=(qF _).trans Tryz.underlying3
 a3:=fun w=>(qX _ w).trans (Tryz.isAgg3 w)
 z3:=fun w=>(qO _ w).trans (Tryz.sizeOf3 w)
 v3:=fun w=>(qE _ w).trans (Tryz.zeroValue3 w)
 t4:=(qF _).trans Tryz.underlying4
 a4:=fun w=>(qX _ w).trans (Tryz.isAgg4 w)
 z4:=fun w=>(qO _ w).trans (Tryz.sizeOf4 w)
 v4:=fun w=>(qE _ w).trans (Tryz.zeroValue4 w)
 t22:=(qF _).trans Tryz.underlying31
 a22:=fun w=>(qX _ w).trans (Tryz.isAgg31 w)
 z22:=fun w=>(qO _ w).trans (Tryz.sizeOf31 w)
 v22:=fun w=>(qE _ w).trans (Tryz.zeroValue31 w)
 i3:=by kernel_rfl
theorem sort_run(blk off cap:Nat)(zs:List Int)(w:World)(hH:Holds (Value.int .i64) w blk off zs.toArray)(hblk:blk<w.heap.size)(hsz:zs.length<4611686018427387904) :
 Calls qp 97 #[.slice (some ⟨blk,off,none⟩) zs.length cap] w fun e w'=>e=.returned (.tuple #[])/\∃n os,w'=grow (putRow (Value.int .i64) (Sort.ahead w n) blk off (zs.mergeSort fun x y=>decide (x<=y)).toArray) os:=Any.slices_Sort_int laysS blk off cap zs w hH hblk hsz
theorem qaZ(blk off cap:Nat)(zs:List Int)(w:World)(hH:Holds (Value.int .i64) w blk off zs.toArray)(hsz:zs.length<=9223372036854775807)(hcap:zs.length<=cap) :
 Calls qp 98 #[.slice (some ⟨blk,off,none⟩) zs.length cap] w fun e w'=>e=.returned (.slice (some ⟨blk,off,none⟩) (Lib.compact zs).length cap)/\∃q,w'=putRow (Value.int .i64) (Sort.ahead w q) blk off (Lib.compact zs++List.replicate (zs.length-(Lib.compact zs).length) 0).toArray:=Any.slices_Compact_int laysC blk off cap zs w hH hsz hcap
end Go.Proofs.Tryz
namespace Go.Proofs.Tryz
open Go Go.Load Go.LoadR Go.RowKit Go.Maps
theorem xH:(qp.info? 3).map (fun i=>(i.zero,i.size,i.bytes))=some (some (.int .i64 0),1,8):=by kernel_rfl
theorem Qh(z:Int):∀u∈[Value.int .i64 z],u.oneCell'=true:=by intro u hu;simp at hu;subst hu;rfl
def qN(l:List Int):List Int:=Lib.compact (l.mergeSort fun x y=>decide (x<=y))
theorem YL(l:List Int):(Lib.compact l).length<=l.length:=by
 unfold Lib.compact Lib.compactUpTo;rw[List.length_map];exact Nat.le_trans (List.length_filter_le _ _) (by simp)
theorem zz{w:World}{base:Nat}{e:TypeId}{v:Value}{n:Nat}{l:List Int}(h:w.ownsRow base e 1 v n (l.map (.int .i64))):∃a c,v=.slice a n c/\n<=c/\qi w 1 encI a l:=by
 obtain⟨a,c,e,hl,r⟩:=Zd h;refine⟨a,c,e,hl,fun hn=>?_⟩;obtain⟨x,hx⟩:∃x,l[0]? = some x:=⟨l[0],by simp⟩;obtain⟨g,rfl,_⟩:=r 0 (.int .i64 x) (by simp[hx]);refine⟨g,0,rfl,fun i y hy j v hv=>?_⟩;obtain⟨g',e',h'⟩:=r i (.int .i64 y) (by simp[hy]);cases e'
 cases j with
 | zero=>simp[encI]at hv;subst hv;simpa using h'
 | succ j=>simp[encI]at hv
theorem qdr{w w1:World}{M base e size n:Nat}{v:Value}{xs:List Value}(h:w.ownsRow base e size v n xs)(hg:w.grownBy w1 (some M))(hM:M<base):w1.ownsRow base e size v n xs:=h.kept hg (by
 cases hv:v.ownBlock with
 | none=>exact .inl rfl
 | some b=>right;intro e;have:=(h.lt b hv).1;cases e;omega)
theorem Qc(D:DayM)(M:Nat)(A0:Nat->Prop)(w0 w:World)(h:St D M A0 w0 w)(hA:∀b,A0 b->b<w.heap.size)(fid:FuncId)(bound:Array Value)(hf:∀(args:Array Value) (w:World),(callFunc fid args).run qp w=.ok (.enter fid args) w)(f:PastM->Int)(l:List PastM)(a:Option Addr)(c:Nat)(hne:0<l.length)(hlen:l.length<=1000)(hlc:l.length<=c)(hr:qi w 4 Zx a l)
 (hcall:∀x∈l,∀A W,St D M A w0 W->(∀b,A b->b<W.heap.size)->w.grownBy W (some M)->Calls qp fid (#[pvP x]++bound) W fun e w'=>e=.returned (.int .i64 (f x))/\St D M A w0 w'/\W.grownBy w' (some M)) :
 Calls qp 45 #[.slice a l.length c,.func (.func fid) #[] bound] w fun e w'=>∃a' c',e=.returned (.slice a' (qN (l.map f)).length c')/\(qN (l.map f)).length<=c'/\qi w' 1 encI a' (qN (l.map f))/\(∀p,a'=some p->w.heap.size<=p.block)/\St D M A0 w0 w'/\w.grownBy w' (some M):=by
 obtain⟨i0,hi,hz0,hz1,hz2⟩:=info_parts xH;have hml:=h.kn.lt;have hw0:=h.bel.size;have hM0:=h.le;go_enter (sf 45 f45),ntmps45;go_wp2;go_loopw [10,5] (fun i u wr=>∃(k:Nat) (q:Value),i=.int .i64 k/\q=u/\k<=l.length/\St D M (fun b=>A0 b\/q.ownBlock=some b) w0 wr/\w.grownBy wr (some M)/\wr.ownsRow w.heap.size 3 1 q k ((l.take k).map fun x=>.int .i64 (f x))) (fun i _ _=>l.length-(intOf i).toNat);case atStart=>exact⟨0,_,rfl,rfl,Nat.zero_le _,h.own (r:=none) (qo (Below.refl _ _)) (fun _ e=>by cases e) (fun b hb=>by rcases hb with hb|hb;exact .inl hb;cases hb),qo (Below.refl _ _),World.ownsRow_nil _ _ _ _⟩
 case round =>
  obtain⟨k,q,rfl,rfl,hk,hst,hg,ho⟩:=hrel;have hRr:=h.rows hg hr;have hsz:=hg.size;by_cases hlt:k<l.length
  ·obtain⟨b,o,rfl,hP⟩:=hRr (by omega);obtain⟨x,hx⟩:∃x,l[k]? = some x:=⟨l[k],by simp[hlt]⟩;have c0:=hP k x hx 0 _ rfl;have c1:=hP k x hx 1 _ rfl;have c2:=hP k x hx 2 _ rfl;have c3:=hP k x hx 3 _ rfl;simp only[Nat.add_zero]at c0;have hkc:(k:Int)<=(c:Int):=(by omega);have hqb:∀b,q.ownBlock=some b->w.heap.size<=b/\b<wr.heap.size:=fun b hb=>ho.lt b hb
   have hcl:=fun W (hB:Below wr.heap.size wr W)=>hcall x (qI hx) (fun b=>A0 b\/q.ownBlock=some b) W (hst.keep hB) (fun b hb=>by
    have:=hB.size;rcases hb with hb|hb
    ·have:=hA b hb;omega
    ·have:=(hqb b hb).2;omega) (qw hg (qo hB))
   have HX:=qd hx;have HC:=qd hcall;have HR:=qd hr;have HST:=qd hst;have HG:=qd hg;have HO:=qd ho;have HA:=qd hA;clear hP hx hcall hRr hr hst hg ho hA;unfold pvP at hcl;obtain⟨args,hargs⟩:∃args,(#[.agg #[.int .i64 x.a,.int .i64 x.b,.int .i64 x.c,.int .i64 x.d]]++bound)=args:=⟨_,rfl⟩;rw[hargs]at hcl;have HCL:=qd hcl;clear hcl;go_wp2_with (first|(at_builtin;refine wpList_append_own_at _ rfl (.tmp 14) (.tmp 18) 31 rfl w.heap.size 3 i0 (.int .i64 0) 1 8 ((qF _).trans Tryz.underlying31) hi hz0 hz1 hz2 rfl (by decide) _ _ _ rfl (ow1.alloc _) ⟨w1.heap.size,0,none⟩ 1 1 [.int .i64 (f x)] rfl rfl (cell_one_new _ _ _) (Qh (f x)) (by unfold maxLen;omega) (by omega) (by simp;omega) ?_;intro v1 w3 n1 g1 nil1 at1)|((first|(rw[hargs])|skip);(with_reducible refine(HCL.out _ (by go_grown)).mono ?_);rintro e w1 ⟨rfl,hst1,hg1⟩;have ow1:=qdr (qV HO.out (by go_grown)) hg1 hml;have hz1w:=hg1.size;simp at hz1w;have hgw:=qw (qo (by go_grown)) hg1));have g2:(w1.alloc (.cells #[.int .i64 (f x)] 3)).grownBy w3 q.ownBlock:=g1;have at2:v1.ownBlock=q.ownBlock\/v1.ownBlock=some (w1.alloc (.cells #[.int .i64 (f x)] 3)).heap.size:=at1;clear g1 at1;have hmm:Mod (fun b=>q.ownBlock=some b) w1 w3:=(Mod.below ((Below.refl _ w1).alloc ql _)).trans (Mod.grown g2 (fun b e=>e));have hga:=qw (qw HG.out (qo (by go_grown))) hg1;go_roundw
   case rel =>
    refine⟨k+1,v1,rfl,rfl,by omega,hst1.mod hmm (fun b hb=>⟨.inr hb,by have:=(hqb b hb).1;omega,by have:=(hqb b hb).1;omega⟩) (fun b hb=>?_),zU hga hmm (fun b hb=>(hqb b hb).1),?_⟩
    ·rcases hb with hb|hb
     ·exact .inl (.inl hb)
     ·rcases at2 with at2|at2
      ·exact .inl (.inr (at2.symm.trans hb))
      ·rw[at2]at hb;have:=qz hb;simp at this;exact .inr (by omega)
    ·have e:(l.take (k+1)).map (fun x=>Value.int .i64 (f x))=(l.take k).map (fun x=>Value.int .i64 (f x))++[.int .i64 (f x)]:=by
      rw[List.take_add_one,HX.out,List.map_append];rfl
     rw[e];exact n1
   case measure=>simp[intOf];omega
  ·obtain rfl:k=l.length:=(by omega);rw[List.take_length]at ho;obtain⟨hl1,⟨rfl,h0⟩|⟨g,cap,cur,rfl,hb,hgb,h1,h2,h3,h4⟩⟩:=id ho
   ·omega
   have hgl:=(qy hgb).1;have hH:=holds_of_blockI (ss:=l.map f) hgb (by rw[Nat.mul_one]at h4;rw[List.length_map,h4,List.map_map];rfl);have hsr:=sort_run g 0 cap (l.map f) wr hH hgl (by simp;omega);have hlm:((l.map f).mergeSort fun x y=>decide (x<=y)).length=l.length:=(by rw[List.length_mergeSort,List.length_map]);have hcl:=YL ((l.map f).mergeSort fun x y=>decide (x<=y))
   have hcp:∀(n:Nat) (os:Array Obj),Calls qp 98 #[.slice (some ⟨g,0,none⟩) l.length cap] (Sort.grow (Sort.putRow (Value.int .i64) (Sort.ahead wr n) g 0 ((l.map f).mergeSort fun x y=>decide (x<=y)).toArray) os) fun e w'=>e=.returned (.slice (some ⟨g,0,none⟩) (qN (l.map f)).length cap)/\qi w' 1 encI (some ⟨g,0,none⟩) (qN (l.map f))/\St D M A0 w0 w'/\w.grownBy w' (some M):=by
    intro n os;have hS:((l.map f).mergeSort fun x y=>decide (x<=y)).length=(l.map f).length:=List.length_mergeSort _;have e1:=heap_sortedI (n:=n) (os:=os) ((l.map f).mergeSort fun x y=>decide (x<=y)).toArray hgb;have e2:=take_putCellsI cur ((l.map f).mergeSort fun x y=>decide (x<=y)) (by rw[hS,List.length_map];omega);have g1:wr.grownBy _ (some g):=grownBy_sortedI (w:=wr) (g:=g) (n:=n) (os:=os) ((l.map f).mergeSort fun x y=>decide (x<=y)).toArray;have hs1:(Sort.putCells (Value.int .i64) 0 ((l.map f).mergeSort fun x y=>decide (x<=y)).toArray cur).size=cap*1:=(by simp[Sort.putCells,h3]);unfold qN;have hlf:(l.map f).length=l.length:=List.length_map _;rw[hlf]at hS;clear hsr hH h4 hr hcall hRr ho
    generalize(l.map f).mergeSort (fun x y=>decide (x<=y))=Z at *
    generalize Sort.putCells (Value.int .i64) 0 Z.toArray cur=cur2 at *
    generalize Sort.grow (Sort.putRow (Value.int .i64) (Sort.ahead wr n) g 0 Z.toArray) os=W2 at *
    rw[<-hS];refine(qaZ g 0 cap Z W2 (holds_of_blockI e1 e2) (by omega) (by omega)).mono ?_;rintro e w' ⟨rfl,q,rfl⟩;have hld:(Lib.compact Z++List.replicate (Z.length-(Lib.compact Z).length) 0).length=Z.length:=(by rw[List.length_append,List.length_replicate];omega);have o2:=ownsRow_sortedI (base:=w.heap.size) (n:=q) (os:=#[]) (ss:=Z) hld hb e1 (by omega) h2 hs1;have g2:=grownBy_sortedI (w:=W2) (g:=g) (n:=q) (os:=#[]) (Lib.compact Z++List.replicate (Z.length-(Lib.compact Z).length) 0).toArray;rw[Sort.grow_empty]at o2 g2;have hm:Mod (fun b=>b=g) wr _:=(Mod.grown g1 (fun b e=>(qz e).symm)).trans (Mod.grown g2 (fun b e=>(qz e).symm));refine⟨rfl,?_,hst.mod hm (fun b e=>⟨.inr (congrArg some e.symm),by omega,by omega⟩) (fun b hb=>.inl (.inl hb)),zU hg hm (fun b e=>by omega)⟩;obtain⟨a2,c2,e3,_,r3⟩:=zz o2;cases e3;have r4:=r3.take (Lib.compact Z).length;rwa[List.take_left]at r4
   have hgl2:(qN (l.map f)).length<=l.length:=(by unfold qN;omega);rw[List.length_map]at hsr
   generalize((l.map f).mergeSort fun x y=>decide (x<=y)).toArray=S at *
   have HS:=qd hsr;have HC:=qd hcp;clear hsr hcp hst hg ho hr hcall hA hH h4 hRr;go_wp2_with (first|(go_at_call 97;(with_reducible refine HS.out.mono ?_);rintro e w1 ⟨rfl,n,os,rfl⟩)|(go_at_call 98;(with_reducible refine(HC.out n os).mono ?_);rintro e w2 ⟨rfl,hrow,hst2,hg2⟩));go_ret;exact⟨_,cap,rfl,by omega,hrow,(fun p e=>by cases e;exact hb),hst2,hg2⟩
end Go.Proofs.Tryz
namespace Go.Proofs.Tryz
open Go Go.Load Go.LoadR Go.RowKit
def zt(D:DayM)(al:Int):Int:=if checkN D≠0 then checkN D else if al≠0 then al else if(qx D).length=0 then 10 else 0
theorem B6.lt{w:World}{b:Nat}{x0 x1 x2 x3 x4 x5:Value}(h:B6 w b x0 x1 x2 x3 x4 x5):b<w.heap.size:=lt_of_cell h.c0
structure F6 (w:World) (b:Nat):Prop where
 f0:w.frozen? ⟨b,0,none⟩=false
 f1:w.frozen? ⟨b,1,none⟩=false
 f2:w.frozen? ⟨b,2,none⟩=false
 f3:w.frozen? ⟨b,3,none⟩=false
 f4:w.frozen? ⟨b,4,none⟩=false
 f5:w.frozen? ⟨b,5,none⟩=false
theorem F6.keep{w w1:World}{b:Nat}{x0 x1 x2 x3 x4 x5:Value}(h:F6 w b)(h6:B6 w b x0 x1 x2 x3 x4 x5)(hB:Below w.heap.size w w1):F6 w1 b :=
 ⟨qf _ hB h6.c0 h.f0,qf _ hB h6.c1 h.f1,qf _ hB h6.c2 h.f2,qf _ hB h6.c3 h.f3,qf _ hB h6.c4 h.f4,qf _ hB h6.c5 h.f5⟩
theorem B6.mod{S:Nat->Prop}{w w1:World}{b:Nat}{x0 x1 x2 x3 x4 x5:Value}(h:B6 w b x0 x1 x2 x3 x4 x5)(hm:Mod S w w1)(hb:¬S b):B6 w1 b x0 x1 x2 x3 x4 x5 :=
 ⟨hm.cell h.c0 hb,hm.cell h.c1 hb,hm.cell h.c2 hb,hm.cell h.c3 hb,hm.cell h.c4 hb,hm.cell h.c5 hb⟩
theorem F6.mod{S:Nat->Prop}{w w1:World}{b:Nat}{x0 x1 x2 x3 x4 x5:Value}(h:F6 w b)(h6:B6 w b x0 x1 x2 x3 x4 x5)(hm:Mod S w w1)(hb:¬S b):F6 w1 b :=
 ⟨(hm.frozen h6.c0 hb).trans h.f0,(hm.frozen h6.c1 hb).trans h.f1,(hm.frozen h6.c2 hb).trans h.f2,(hm.frozen h6.c3 hb).trans h.f3,(hm.frozen h6.c4 hb).trans h.f4,(hm.frozen h6.c5 hb).trans h.f5⟩
theorem qaJ(w:World)(x0 x1 x2 x3 x4:Value)(t t':TypeId):B6 ((w.alloc (Obj.cells #[x0,x1,x2,x3,x4] t)).alloc (Obj.cells #[.slice none 0 0,.slice none 0 0,.slice none 0 0,.slice none 0 0,.slice none 0 0,.map none] t')) (w.heap.size+1) (.slice none 0 0) (.slice none 0 0) (.slice none 0 0) (.slice none 0 0) (.slice none 0 0) (.map none) /\
 F6 ((w.alloc (Obj.cells #[x0,x1,x2,x3,x4] t)).alloc (Obj.cells #[.slice none 0 0,.slice none 0 0,.slice none 0 0,.slice none 0 0,.slice none 0 0,.map none] t')) (w.heap.size+1) /\
 Below w.heap.size w ((w.alloc (Obj.cells #[x0,x1,x2,x3,x4] t)).alloc (Obj.cells #[.slice none 0 0,.slice none 0 0,.slice none 0 0,.slice none 0 0,.slice none 0 0,.map none] t')) /\
 ((w.alloc (Obj.cells #[x0,x1,x2,x3,x4] t)).alloc (Obj.cells #[.slice none 0 0,.slice none 0 0,.slice none 0 0,.slice none 0 0,.slice none 0 0,.map none] t')).heap.size=w.heap.size+2 :=
 ⟨⟨by go_cell,by go_cell,by go_cell,by go_cell,by go_cell,by go_cell⟩,⟨by go_cell,by go_cell,by go_cell,by go_cell,by go_cell,by go_cell⟩,by go_grown,by simp⟩
theorem qdW(D:DayM)(w:World)(h:DayAt w D)(hs:DaySm D)(hG:Globs w)(hz:checkN D≠0)(fv:Value) :
 Calls qp 42 #[dv D,fv] w fun e w'=>e=.returned (.tuple #[dz,.slice none 0 0,.int .i64 (checkN D)])/\Below w.heap.size w w':=by
 have hop:=fun W (hB:Below w.heap.size w W)=>Jv D W (h.keep hB) hs (hG.keep hB) hz
 generalize checkN D=r at *
 unfold dv dz at *
 clear h hG hs;have hb:(r != 0)=true:=by simp[hz]
 clear hz
 generalize Value.slice D.ta D.ts.length D.tc=x0 at *
 generalize Value.slice D.ga D.gs.length D.gc=x1 at *
 generalize Value.slice D.oa D.os.length D.oc=x2 at *
 generalize Value.slice D.ha D.hs.length D.hc=x3 at *
 generalize Value.slice D.ca D.cs.length D.cc=x4 at *
 have h2:=qaJ w x0 x1 x2 x3 x4 28 73;obtain⟨W,hW⟩:∃W,(w.alloc (Obj.cells #[x0,x1,x2,x3,x4] 28)).alloc (Obj.cells #[.slice none 0 0,.slice none 0 0,.slice none 0 0,.slice none 0 0,.slice none 0 0,.map none] 73)=W:=⟨_,rfl⟩;have k0:W.cell? ⟨w.heap.size,0,none⟩=some x0:=by subst hW;go_cell
 have k1:W.cell? ⟨w.heap.size,1,none⟩=some x1:=by subst hW;go_cell
 have k2:W.cell? ⟨w.heap.size,2,none⟩=some x2:=by subst hW;go_cell
 have k3:W.cell? ⟨w.heap.size,3,none⟩=some x3:=by subst hW;go_cell
 have k4:W.cell? ⟨w.heap.size,4,none⟩=some x4:=by subst hW;go_cell
 rw[hW]at h2;obtain⟨h6,hf6,hBW,hsW⟩:=h2;have hopW:=hop W hBW;have HX:=qd (qg h6 (qg hf6 hBW));clear h6 hf6 hBW hop;go_enter (sf 42 f42),ntmps42;go_upto_region 1 with fail;try rw[hW]
 clear hW;go_upto_region 3 with(go_at_call 73;(with_reducible refine hopW.mono ?_);rintro e w1 ⟨rfl,hB1⟩;obtain⟨z0,z1,z2,z3,z4,z5⟩:=HX.out.1.keep hB1;obtain⟨f0,f1,f2,f3,f4,f5⟩:=HX.out.2.1.keep HX.out.1 hB1;have hs1:=hB1.size;have hzz:w.heap.size+1<w1.heap.size:=(by omega));have hB3:Below W.heap.size W (w1.alloc (Obj.cells #[.slice none 0 0,.slice none 0 0,.slice none 0 0,.slice none 0 0,.slice none 0 0,.map none] 73)):=by go_grown
 obtain⟨V,hV⟩:∃V,w1.alloc (Obj.cells #[.slice none 0 0,.slice none 0 0,.slice none 0 0,.slice none 0 0,.slice none 0 0,.map none] 73)=V:=⟨_,rfl⟩;rw[hV]at hB3⊢;clear hV z0 z1 z2 z3 z4 z5 f0 f1 f2 f3 f4 f5 k0 k1 k2 k3 k4 hB1 hopW;obtain⟨z0,z1,z2,z3,z4,z5⟩:=HX.out.1.keep hB3;obtain⟨f0,f1,f2,f3,f4,f5⟩:=HX.out.2.1.keep HX.out.1 hB3;go_wp2;refine Yv results42 Zn Qo rfl rfl rfl (u0:=.slice none 0 0) (u1:=.slice none 0 0) (u2:=.slice none 0 0) (u3:=.slice none 0 0) (u4:=.slice none 0 0) (u5:=.map none) z0 z1 z2 z3 z4 z5 ⟨rfl,?_⟩;exact LoadR.Below.set6 (Below.call (B:=w.heap.size) HX.out.2.2 hB3 (by omega)) (by simp)
theorem Mod.put{S:Nat->Prop}{w w1:World}(h:Mod S w w1)(p:Addr)(v:Value)(hp:S p.block):Mod S w (w1.setCell p v):=h.trans (Mod.grown (yZ w1 p v) (fun b e=>(qz e)▸hp))
theorem qcw{w:World}{b:Nat}{v0 v1 v2 v3 v4 v5:Value}:Mod (fun k=>k=b) w (LoadR.set6 w b v0 v1 v2 v3 v4 v5) :=
 by unfold LoadR.set6;exact((((((Mod.refl (fun k=>k=b) w).put ⟨b,0,none⟩ _ rfl).put ⟨b,1,none⟩ _ rfl).put ⟨b,2,none⟩ _ rfl).put ⟨b,3,none⟩ _ rfl).put ⟨b,4,none⟩ _ rfl).put ⟨b,5,none⟩ _ rfl
def AskP(D:DayM)(al:Int)(w:World)(e:Ending)(w':World):Prop :=
 (zt D al≠0/\e=.returned (.tuple #[dz,.slice none 0 0,.int .i64 (zt D al)])/\Below w.heap.size w w') \/
 (zt D al=0/\∃M a c,e=.returned (.tuple #[dm D (some M),.slice a (qx D).length c,.int .i64 0])/\0<(qx D).length/\(qx D).length<=c/\qi w' 4 Zx a (qx D)/\(∀p,a=some p->w.heap.size<=p.block)/\St D M (fun _=>False) w w')
theorem asked_go(D:DayM)(w:World)(h:DayAt w D)(hs:DaySm D)(hG:Globs w)(hz:checkN D=0)(fid:FuncId)(bound:Array Value)(hf:∀(args:Array Value) (w:World),(callFunc fid args).run qp w=.ok (.enter fid args) w)(al:Int)
 (hcall:∀M W,w.heap.size<=M->Below w.heap.size w W->Calls qp fid (#[dm D (some M)]++bound) W fun e w'=>e=.returned (.int .i64 al)/\Below W.heap.size W w') :
 Calls qp 42 #[dv D,.func (.func fid) #[] bound] w (AskP D al w):=by
 have hop:=fun W (hB:Below w.heap.size w W)=>Jw D W (h.keep hB) hs (hG.keep hB) hz;have HD:=qd (qg h (qg hs hz));have hhi:=fun M (A:Nat->Prop) W hS hA=>YV D M A w W hS hA hz;have HCL:=qd hcall;have HHI:=qd hhi;clear h hG hs hz hcall hhi;have hdv:dv D=.agg #[.slice D.ta D.ts.length D.tc,.slice D.ga D.gs.length D.gc,.slice D.oa D.os.length D.oc,.slice D.ha D.hs.length D.hc,.slice D.ca D.cs.length D.cc]:=rfl;have hdm:∀M,dm D M=.agg #[.slice D.ta D.ts.length D.tc,.slice D.ga D.gs.length D.gc,.slice D.oa D.os.length D.oc,.slice D.ha D.hs.length D.hc,.slice D.ca D.cs.length D.cc,.map M]:=fun _=>rfl;have HDM:=qd hdm;rw[hdv]at hop⊢;clear hdv;simp only[hdm]at hop;clear hdm;have h2:=qaJ w (.slice D.ta D.ts.length D.tc) (.slice D.ga D.gs.length D.gc) (.slice D.oa D.os.length D.oc) (.slice D.ha D.hs.length D.hc) (.slice D.ca D.cs.length D.cc) 28 73;obtain⟨W,hW⟩:∃W,(w.alloc (Obj.cells #[.slice D.ta D.ts.length D.tc,.slice D.ga D.gs.length D.gc,.slice D.oa D.os.length D.oc,.slice D.ha D.hs.length D.hc,.slice D.ca D.cs.length D.cc] 28)).alloc (Obj.cells #[.slice none 0 0,.slice none 0 0,.slice none 0 0,.slice none 0 0,.slice none 0 0,.map none] 73)=W:=⟨_,rfl⟩;have k0:W.cell? ⟨w.heap.size,0,none⟩=some (.slice D.ta D.ts.length D.tc):=by subst hW;go_cell
 have k1:W.cell? ⟨w.heap.size,1,none⟩=some (.slice D.ga D.gs.length D.gc):=by subst hW;go_cell
 have k2:W.cell? ⟨w.heap.size,2,none⟩=some (.slice D.oa D.os.length D.oc):=by subst hW;go_cell
 have k3:W.cell? ⟨w.heap.size,3,none⟩=some (.slice D.ha D.hs.length D.hc):=by subst hW;go_cell
 have k4:W.cell? ⟨w.heap.size,4,none⟩=some (.slice D.ca D.cs.length D.cc):=by subst hW;go_cell
 rw[hW]at h2;obtain⟨h6,hf6,hBW,hsW⟩:=h2;have hopW:=hop W hBW;have HX:=qd (qg h6 (qg hf6 hBW));clear h6 hf6 hBW hop;go_enter (sf 42 f42),ntmps42;go_upto_region 1 with fail;try rw[hW]
 clear hW;go_upto_region 4 with(go_at_call 73;(with_reducible refine hopW.mono ?_);rintro e w1 ⟨M,rfl,hM,hG1,hB1⟩;have hs1:=hB1.size;have hzz:w.heap.size+1<w1.heap.size:=(by omega));have hg1:=hG1.lt;have hB3:Below W.heap.size W (w1.alloc (Obj.cells #[.slice D.ta D.ts.length D.tc,.slice D.ga D.gs.length D.gc,.slice D.oa D.os.length D.oc,.slice D.ha D.hs.length D.hc,.slice D.ca D.cs.length D.cc,.map (some M)] 73)):=by go_grown
 have h7:B6 (w1.alloc (Obj.cells #[.slice D.ta D.ts.length D.tc,.slice D.ga D.gs.length D.gc,.slice D.oa D.os.length D.oc,.slice D.ha D.hs.length D.hc,.slice D.ca D.cs.length D.cc,.map (some M)] 73)) w1.heap.size (.slice D.ta D.ts.length D.tc) (.slice D.ga D.gs.length D.gc) (.slice D.oa D.os.length D.oc) (.slice D.ha D.hs.length D.hc) (.slice D.ca D.cs.length D.cc) (.map (some M)):=B6.new _ _ _ _ _ _ _ _;have hG2:=hG1.keep ((Below.refl _ w1).alloc ql (Obj.cells #[.slice D.ta D.ts.length D.tc,.slice D.ga D.gs.length D.gc,.slice D.oa D.os.length D.oc,.slice D.ha D.hs.length D.hc,.slice D.ca D.cs.length D.cc,.map (some M)] 73));obtain⟨T,hT⟩:∃T,w1.heap.size=T:=⟨_,rfl⟩;rw[hT]at h7 hg1 hs1 hzz⊢;obtain⟨V,hV⟩:∃V,w1.alloc (Obj.cells #[.slice D.ta D.ts.length D.tc,.slice D.ga D.gs.length D.gc,.slice D.oa D.os.length D.oc,.slice D.ha D.hs.length D.hc,.slice D.ca D.cs.length D.cc,.map (some M)] 73)=V:=⟨_,rfl⟩;rw[hV]at hB3 h7 hG2⊢;clear hV hB1 hG1 hopW k0 k1 k2 k3 k4;have hTV:=h7.lt;have hBwV:=Below.call (B:=w.heap.size) HX.out.2.2 hB3 (by omega);have hcl:=HCL.out M V (by omega) hBwV;rw[HDM.out]at hcl;have H7:=qd (qg h7 (qg hG2 (qg hB3 hBwV)));obtain⟨args,hargs⟩:∃args,(#[.agg #[.slice D.ta D.ts.length D.tc,.slice D.ga D.gs.length D.gc,.slice D.oa D.os.length D.oc,.slice D.ha D.hs.length D.hc,.slice D.ca D.cs.length D.cc,.map (some M)]]++bound)=args:=⟨_,rfl⟩;rw[hargs]at hcl;obtain⟨t0,t1,t2,t3,t4,t5⟩:=h7;clear hG2 hB3 hBwV;go_upto_region 5 with((first|(rw[hargs])|skip);(with_reducible refine hcl.mono ?_);rintro e w2 ⟨rfl,hB2⟩)
 have hB23:=Below.call H7.out.2.2.1 hB2 (by omega);have hBw2:=Below.call H7.out.2.2.2 hB2 (by omega);have hs2:=hB2.size;clear t0 t1 t2 t3 t4 t5 hcl hargs;obtain⟨z0,z1,z2,z3,z4,z5⟩:=HX.out.1.keep hB23;obtain⟨f0,f1,f2,f3,f4,f5⟩:=HX.out.2.1.keep HX.out.1 hB23;by_cases hal:al=0
 ·subst hal;obtain⟨t0,t1,t2,t3,t4,t5⟩:=H7.out.1.keep hB2;have hst:St D M (fun b=>b=w.heap.size+1) w w2:=⟨hBw2,by omega,HD.out.1,HD.out.2.1,qY D HD.out.2.2,⟨fun _=>none,H7.out.2.1.keep hB2,fun s v hv=>by cases hv⟩⟩;have hh:=HHI.out M _ w2 hst (fun b hb=>by omega);rw[HDM.out]at hh;have HST:=qd hst;have HB:=qd (qg hB23 (qg hBw2 hB2));clear hst hB23 hBw2 hB2;go_upto_region 8 with(go_at_call 81;(with_reducible refine hh.mono ?_);rintro e w3 ⟨a,c,rfl,hlc,hrow,hfr,hst3,hg3⟩);have hmM:Mod (fun b=>b=M) w2 w3:=Mod.grown hg3 (fun b e=>(qz e).symm);have h63:=(HX.out.1.keep HB.out.1).mod hmM (show ¬w.heap.size+1=M by omega);have hf3:=(HX.out.2.1.keep HX.out.1 HB.out.1).mod (HX.out.1.keep HB.out.1) hmM (show ¬w.heap.size+1=M by omega);have h73:=(H7.out.1.keep HB.out.2.2).mod hmM (show ¬T=M by omega);have HR:=qd (qg hlc (qg hrow (qg hst3 hfr)));clear hmM hlc hrow hfr hst3 hg3 z0 z1 z2 z3 z4 z5 f0 f1 f2 f3 f4 f5 t0 t1 t2 t3 t4 t5 hh;have H63:=qd h63;obtain⟨z0,z1,z2,z3,z4,z5⟩:=h63;obtain⟨f0,f1,f2,f3,f4,f5⟩:=hf3;obtain⟨t0,t1,t2,t3,t4,t5⟩:=h73;by_cases hN:(qx D).length=0
  ·have HN:=qd hN;rw[hN];clear hN;go_wp2;refine Yv results42 Zn Qo rfl rfl rfl (u0:=.slice none 0 0) (u1:=.slice none 0 0) (u2:=.slice none 0 0) (u3:=.slice none 0 0) (u4:=.slice none 0 0) (u5:=.map none) z0 z1 z2 z3 z4 z5 (.inl ⟨?_,?_,?_⟩)
   ·unfold zt;rw[if_neg (by simpa using HD.out.2.2),if_neg (by simp),if_pos HN.out];decide
   ·unfold zt;rw[if_neg (by simpa using HD.out.2.2),if_neg (by simp),if_pos HN.out];rfl
   ·exact LoadR.Below.set6 HR.out.2.2.1.bel (by omega)
  ·have hb:(((qx D).length:Int)==0)=false:=(by rw[beq_eq_false_iff_ne];omega);have HN:=qd hN;clear hN;go_wp2;refine Yv results42 Zn Qo rfl rfl rfl (u0:=.slice none 0 0) (u1:=.slice none 0 0) (u2:=.slice none 0 0) (u3:=.slice none 0 0) (u4:=.slice none 0 0) (u5:=.map none) z0 z1 z2 z3 z4 z5 (.inr ⟨?_,M,a,c,rfl,by have:=HN.out;omega,HR.out.1,?_,fun p e=>by have:=HR.out.2.2.2 p e;omega,?_⟩)
   ·unfold zt;rw[if_neg (by simpa using HD.out.2.2),if_neg (by simp),if_neg HN.out]
   ·intro hl;obtain⟨b,o,e,hq⟩:=HR.out.2.1 hl;have hfr:=HR.out.2.2.2 _ e;exact⟨b,o,e,fun i x hx j v hv=>qcw.cell (hq i x hx j v hv) (by simp only at hfr⊢;omega)⟩
   ·exact HR.out.2.2.1.mod qcw (fun b hb=>⟨hb,by omega,by omega⟩) (fun b hb=>hb.elim)
 ·have hb:(al != 0)=true:=by simpa using hal
  go_wp2;refine Yv results42 Zn Qo rfl rfl rfl (u0:=.slice none 0 0) (u1:=.slice none 0 0) (u2:=.slice none 0 0) (u3:=.slice none 0 0) (u4:=.slice none 0 0) (u5:=.map none) z0 z1 z2 z3 z4 z5 (.inl ⟨?_,?_,?_⟩)
  ·unfold zt;rw[if_neg (by simpa using HD.out.2.2),if_pos hal];exact hal
  ·unfold zt;rw[if_neg (by simpa using HD.out.2.2),if_pos hal];rfl
  ·exact LoadR.Below.set6 hBw2 (by omega)
end Go.Proofs.Tryz
namespace Go.Proofs.Tryz
open Go Go.Load Go.RowKit
abbrev RGL(L:List (Addr×Value))(D:DayM)(M:Nat)(A:Nat->Prop)(w0 W X:World):Prop:=CL L X (St D M A w0 X/\W.grownBy X (some M))
section
variable {L:List (Addr×Value)} {D:DayM} {M:Nat} {A:Nat->Prop} {w0 W X Y:World}
theorem RGL.st(h:RGL L D M A w0 W X):St D M A w0 X:=(CL.out h).1
theorem RGL.gr(h:RGL L D M A w0 W X):W.grownBy X (some M):=(CL.out h).2
theorem RGL.call(h:RGL L D M A w0 W X)(hB:Below X.heap.size X Y):RGL L D M A w0 W Y:=CL.imp (fun _ _ h=>qb _ hB h) (fun h=>⟨h.1.keep hB,qw h.2 (qo hB)⟩) h
theorem RGL.play(h:RGL L D M A w0 W X)(hst:St D M A w0 Y)(hg:X.grownBy Y (some M)):RGL L D M A w0 W Y:=CL.imp (fun _ _ h2=>(RGL.st h).cell hg h2) (fun h=>⟨hst,qw h.2 hg⟩) h
theorem RGL.drew(h:RGL L D M A w0 W X):RGL L D M A w0 W X.drew:=RGL.call h (Below.refl _ X).drew
end
abbrev RG7(D:DayM)(M:Nat)(A:Nat->Prop)(w0 W:World)(a0 a1 a2 a3 a4 a5 a6:Addr)(v0 v1 v2 v3 v4 v5 v6:Value)(X:World):Prop:=RGL [(a0,v0),(a1,v1),(a2,v2),(a3,v3),(a4,v4),(a5,v5),(a6,v6)] D M A w0 W X
abbrev RG10(D:DayM)(M:Nat)(A:Nat->Prop)(w0 W:World)(a0 a1 a2 a3 a4 a5 a6 a7 a8 a9:Addr)(v0 v1 v2 v3 v4 v5 v6 v7 v8 v9:Value)(X:World):Prop:=RGL [(a0,v0),(a1,v1),(a2,v2),(a3,v3),(a4,v4),(a5,v5),(a6,v6),(a7,v7),(a8,v8),(a9,v9)] D M A w0 W X
abbrev RG11(D:DayM)(M:Nat)(A:Nat->Prop)(w0 W:World)(a0 a1 a2 a3 a4 a5 a6 a7 a8 a9 a10:Addr)(v0 v1 v2 v3 v4 v5 v6 v7 v8 v9 v10:Value)(X:World):Prop:=RGL [(a0,v0),(a1,v1),(a2,v2),(a3,v3),(a4,v4),(a5,v5),(a6,v6),(a7,v7),(a8,v8),(a9,v9),(a10,v10)] D M A w0 W X
abbrev RG16(D:DayM)(M:Nat)(A:Nat->Prop)(w0 W:World)(a0 a1 a2 a3 a4 a5 a6 a7 a8 a9 a10 a11 a12 a13 a14 a15:Addr)(v0 v1 v2 v3 v4 v5 v6 v7 v8 v9 v10 v11 v12 v13 v14 v15:Value)(X:World):Prop:=RGL [(a0,v0),(a1,v1),(a2,v2),(a3,v3),(a4,v4),(a5,v5),(a6,v6),(a7,v7),(a8,v8),(a9,v9),(a10,v10),(a11,v11),(a12,v12),(a13,v13),(a14,v14),(a15,v15)] D M A w0 W X
end Go.Proofs.Tryz
namespace Go.Proofs.Tryz
open Go Go.Load Go.LoadR Go.RowKit
theorem qeF(D:DayM)(m:Option Nat)(cb:Nat)(call:Int)(w:World)(hc:w.cell? ⟨cb,0,none⟩=some (.int .i64 call))(hl:D.cs.length<=20) :
 Calls qp 43 #[dm D m,pt cb] w fun e w'=>e=.returned (.int .i64 (za call D.cs.length))/\Below w.heap.size w w':=by
 have hix:=fun W=>jO call D.cs.length W (by omega) (by omega);unfold dm
 generalize Value.slice D.ta D.ts.length D.tc=x0 at *
 generalize Value.slice D.ga D.gs.length D.gc=x1 at *
 generalize Value.slice D.oa D.os.length D.oc=x2 at *
 generalize Value.slice D.ha D.hs.length D.hc=x3 at *
 have hb:=lt_of_cell hc;simp only at hb;go_enter (sf 43 f43),ntmps43;go_wp2_with (go_at_call 44;(with_reducible refine(hix _).mono ?_);rintro e w1 ⟨rfl,rfl⟩);go_ret;exact⟨rfl,by go_grown⟩
theorem qeG(D:DayM)(M:Nat)(A:Nat->Prop)(w0 w:World)(h:St D M A w0 w)(hA:∀b,A b->b<w.heap.size)(db cb:Nat)(hd:B6 w db (.slice D.ta D.ts.length D.tc) (.slice D.ga D.gs.length D.gc) (.slice D.oa D.os.length D.oc) (.slice D.ha D.hs.length D.hc) (.slice D.ca D.cs.length D.cc) (.map (some M)))
 (k:Nat) (hc:w.cell? ⟨cb,0,none⟩=some (.int .i64 k)) (hk:k<D.cs.length) (p:PastM) (hp:p.ok) :
 Calls qp 46 #[pvP p,pt db,pt cb] w fun e w'=>e=.returned (.int .i64 ((qD D (setOf p)).getD k 0))/\St D M A w0 w'/\w.grownBy w' (some M):=by
 have hpl:=fun W (hS:St D M A w0 W) (hg:w.grownBy W (some M))=>QK hS (setOf p) (by simp[setOf]) hp (by simp[setOf]) (fun b hb=>Nat.lt_of_lt_of_le (hA b hb) hg.size);have hlen:(qD D (setOf p)).length=D.cs.length:=qH _ _;have hcl:=h.sm.cs.1;have has:=fun W=>zX p W;obtain⟨x,hx⟩:∃x,(qD D (setOf p))[k]? = some x:=⟨(qD D (setOf p))[k]'(by omega),by simp⟩;rw[List.getD_eq_getElem?_getD,hx];simp only[Option.getD_some];have hml:=h.kn.lt
 generalize qD D (setOf p)=R at *
 generalize setOf p=s at *
 obtain⟨sv,hsv⟩:∃sv,zf s=sv:=⟨_,rfl⟩;rw[hsv]at has;simp only[hsv]at hpl;have HP:=qd hpl;have HAS:=qd has;have HST:=qd h;have HX:=qd hx;clear hpl has h hx hA hp;unfold dm at HP;unfold pvP at HAS⊢;obtain⟨pa,pb,pc,pd⟩:=p
 simp only at *
 generalize Value.slice D.ta D.ts.length D.tc=x0 at *
 generalize Value.slice D.ga D.gs.length D.gc=x1 at *
 generalize Value.slice D.oa D.os.length D.oc=x2 at *
 generalize Value.slice D.ha D.hs.length D.hc=x3 at *
 generalize Value.slice D.ca D.cs.length D.cc=x4 at *
 obtain⟨d0,d1,d2,d3,d4,d5⟩:=hd;have hdl:=lt_of_cell d0;have hcl2:=lt_of_cell hc;simp only at hdl hcl2;have hk0:(0:Int)<=(k:Int):=Int.natCast_nonneg k;have hk1:(k:Int)<(D.cs.length:Int):=by omega
 go_enter (sf 46 f46),ntmps46;go_upto_region 1 with fail;obtain⟨W,hW⟩:∃W,w.alloc (Obj.cells #[.int .i64 pa,.int .i64 pb,.int .i64 pc,.int .i64 pd] 81)=W:=⟨_,rfl⟩;have hBW:Below w.heap.size w W:=by subst hW;go_grown
 have hS:RG11 D M A w0 W ⟨db,0,none⟩ ⟨db,1,none⟩ ⟨db,2,none⟩ ⟨db,3,none⟩ ⟨db,4,none⟩ ⟨db,5,none⟩ ⟨w.heap.size,0,none⟩ ⟨w.heap.size,1,none⟩ ⟨w.heap.size,2,none⟩ ⟨w.heap.size,3,none⟩ ⟨cb,0,none⟩ x0 x1 x2 x3 x4 (.map (some M)) (.int .i64 pa) (.int .i64 pb) (.int .i64 pc) (.int .i64 pd) (.int .i64 k) W:=by
  subst hW;exact⟨by go_cell,by go_cell,by go_cell,by go_cell,by go_cell,by go_cell,by go_cell,by go_cell,by go_cell,by go_cell,by go_cell,HST.out.keep hBW,qo (Below.refl _ _)⟩
 rw[hW];clear hW;refine wp_region_held_drew (S:=(RG11 D M A w0 W ⟨db,0,none⟩ ⟨db,1,none⟩ ⟨db,2,none⟩ ⟨db,3,none⟩ ⟨db,4,none⟩ ⟨db,5,none⟩ ⟨w.heap.size,0,none⟩ ⟨w.heap.size,1,none⟩ ⟨w.heap.size,2,none⟩ ⟨w.heap.size,3,none⟩ ⟨cb,0,none⟩ x0 x1 x2 x3 x4 (.map (some M)) (.int .i64 pa) (.int .i64 pb) (.int .i64 pc) (.int .i64 pd) (.int .i64 k))) (by kernel_rfl) (by exact RGL.drew hS) (fun hHeld=>?_);refine tk 0 ?_;refine tk 1 ?_;(refine tk 4 ?_;try simp only[zs,Act.put]);refine tkR 2 fun K hK=>?_;go_simp;go_wp2_with (go_at_call 48;(with_reducible refine(HAS.out _).mono ?_);rintro e w1 ⟨rfl,hB1⟩);refine hK.out _ _ (by exact RGL.call hHeld hB1) (fun hHeldN=>?_);clear hK K hHeld;have hHeld:=hHeldN;clear hHeldN;try simp only[zs,Act.put]
 refine tkR 3 fun K hK=>?_;go_simp;go_wp2_with (go_at_call 47;(with_reducible refine(HP.out _ (RGL.st hHeld) (qw (qo hBW) (RGL.gr hHeld))).mono ?_);rintro e w2 ⟨a,c,rfl,hlc,hrow,hst1,hg1⟩);refine hK.out _ _ (by exact RGL.play hHeld hst1 hg1) (fun hHeldN=>?_);clear hK K hHeld;have hHeld:=hHeldN;clear hHeldN;try simp only[zs,Act.put]
 obtain⟨b,o,rfl,hP⟩:=hrow (by omega);have c9:=hP k x HX.out 0 _ rfl;simp only[Nat.mul_one,Nat.add_zero]at c9;have hkc:(k:Int)<=(c:Int):=by omega
 clear hP;(refine tk 5 ?_;try simp only[zs,Act.put]);(refine tkR 6 fun K hK=>?_;go_simp;refine hK.out _ _ (by exact hHeld) (fun hHeldN=>?_);clear hK K hHeld;have hHeld:=hHeldN;clear hHeldN;try simp only[zs,Act.put]);(refine tk 7 ?_;try simp only[zs,Act.put]);refine wpAnyH_done (by kernel_rfl) ?_ _;try simp only[zs,Act.put]
 have hgf:=RGL.gr (by with_reducible assumption);have hsf:=RGL.st (by with_reducible assumption);go_wp2;go_ret;exact⟨rfl,hsf,qw (qo hBW) hgf⟩
theorem AskP.bad{D:DayM}{al:Int}{w w':World}{e:Ending}(h:AskP D al w e w')(ha:zt D al≠0):e=.returned (.tuple #[dz,.slice none 0 0,.int .i64 (zt D al)])/\Below w.heap.size w w':=by
 rcases h with h|h
 ·exact h.2
 ·exact absurd h.1 ha
theorem AskP.ok{D:DayM}{al:Int}{w w':World}{e:Ending}(h:AskP D al w e w')(ha:zt D al=0):∃M a c,e=.returned (.tuple #[dm D (some M),.slice a (qx D).length c,.int .i64 0])/\0<(qx D).length/\(qx D).length<=c/\qi w' 4 Zx a (qx D)/\(∀p,a=some p->w.heap.size<=p.block)/\St D M (fun _=>False) w w':=by
 rcases h with h|h
 ·exact absurd ha h.1
 ·exact h.2
theorem yj{D:DayM}{al:Int}(h:zt D al=0):checkN D=0/\al=0:=by
 unfold zt at h;by_cases h1:checkN D=0
 ·rw[if_neg (by simpa using h1)]at h;by_cases h2:al=0
  ·exact⟨h1,h2⟩
  ·rw[if_pos h2]at h;exact absurd h h2
 ·rw[if_pos h1]at h;exact absurd h h1
theorem Qg{n many:Int}(h:za n many=0):0<=n/\n<many:=by
 unfold za at h
 cases hb:btw n 0 (many-1)with
 | true=>have:=zS.1 hb;omega
 | false=>rw[hb]at h;simp at h
theorem yF(D:DayM)(w:World)(h:DayAt w D)(hs:DaySm D)(hG:Globs w)(fid:FuncId)(bound:Array Value)(hf:∀(args:Array Value) (w:World),(callFunc fid args).run qp w=.ok (.enter fid args) w)(al:Int)
 (hcall:∀M W,w.heap.size<=M->Below w.heap.size w W->Calls qp fid (#[dm D (some M)]++bound) W fun e w'=>e=.returned (.int .i64 al)/\Below W.heap.size W w') :
 Calls qp 42 #[dv D,.func (.func fid) #[] bound] w (AskP D al w):=by
 by_cases hz:checkN D=0
 ·exact asked_go D w h hs hG hz fid bound hf al hcall
 ·refine(qdW D w h hs hG hz _).mono ?_;rintro e w' ⟨rfl,hB⟩;have e:zt D al=checkN D:=by unfold zt;rw[if_pos hz]
  exact .inl ⟨by rw[e];exact hz,by rw[e],hB⟩
def yP(D:DayM)(k:Nat):List Int:=qN ((qx D).map fun p=>(qD D (setOf p)).getD k 0)
def qdR(D:DayM)(call:Int)(w:World)(e:Ending)(w':World):Prop :=
 Below w.heap.size w w'/\((zt D (za call D.cs.length)≠0/\e=.returned (.tuple #[.slice none 0 0,.int .i64 (zt D (za call D.cs.length))])) \/
 (zt D (za call D.cs.length)=0/\∃a c,e=.returned (.tuple #[.slice a (yP D call.toNat).length c,.int .i64 0])/\(yP D call.toNat).length<=c/\qi w' 1 encI a (yP D call.toNat)))
theorem Qk{D:DayM}(hz:checkN D=0):∀p∈qx D,p.ok:=by
 have hg:=xG D hz;have h4:=(qY D hz).gs
 have key:∀(gs:List GrpM) (i:Nat) (p:PastM),i+gs.length<=4->p.ok->(∀g∈gs,0<=g.lo/\g.hi<=6)->∀q∈zw gs i p,q.ok:=by
  intro gs
  induction gs with
  | nil=>intro i p _ hp _ q hq;simp[zw]at hq;subst hq;exact hp
  | cons g gs ih =>
    intro i p hi hp hgs q hq;unfold zw at hq;obtain⟨n,hn,hq⟩:=List.mem_flatMap.1 hq;unfold Qw at hn;obtain⟨k,hk,rfl⟩:=List.mem_map.1 hn;have hk:=List.mem_range.1 hk;have h1:=hgs g (List.mem_cons_self);simp only[List.length_cons]at hi;exact ih (i+1) _ (by omega) (PastM.ok_set hp (by omega) (by omega)) (fun g' hg'=>hgs g' (List.mem_cons_of_mem _ hg')) q hq
 intro p hp;have hp:=(List.mem_filter.1 hp).1;refine key D.gs 0 ⟨0,0,0,0⟩ (by omega) ?_ (fun g hm=>⟨(hg g hm).1,(hg g hm).2.2.1⟩) p hp;intro g
 match g with
 | 0=>exact⟨Int.le_refl _,(by decide:(0:Int)<=100)⟩
 | 1=>exact⟨Int.le_refl _,(by decide:(0:Int)<=100)⟩
 | 2=>exact⟨Int.le_refl _,(by decide:(0:Int)<=100)⟩
 | n+3=>exact⟨Int.le_refl _,(by decide:(0:Int)<=100)⟩
theorem Yq(D:DayM)(w:World)(h:DayAt w D)(hs:DaySm D)(hG:Globs w)(call:Int):Calls qp 9 #[dv D,.int .i64 call] w (qdR D call w):=by
 have hcl:=hs.cs.1;obtain⟨W,hW⟩:∃W,(w.alloc (Obj.cells #[.slice D.ta D.ts.length D.tc,.slice D.ga D.gs.length D.gc,.slice D.oa D.os.length D.oc,.slice D.ha D.hs.length D.hc,.slice D.ca D.cs.length D.cc] 28)).alloc (Obj.cells #[.int .i64 call] 3)=W:=⟨_,rfl⟩;have hBW:Below w.heap.size w W:=by subst hW;go_grown
 have hsW:W.heap.size=w.heap.size+2:=by subst hW;simp
 have k0:W.cell? ⟨w.heap.size,0,none⟩=some (.slice D.ta D.ts.length D.tc):=by subst hW;go_cell
 have k1:W.cell? ⟨w.heap.size,1,none⟩=some (.slice D.ga D.gs.length D.gc):=by subst hW;go_cell
 have k2:W.cell? ⟨w.heap.size,2,none⟩=some (.slice D.oa D.os.length D.oc):=by subst hW;go_cell
 have k3:W.cell? ⟨w.heap.size,3,none⟩=some (.slice D.ha D.hs.length D.hc):=by subst hW;go_cell
 have k4:W.cell? ⟨w.heap.size,4,none⟩=some (.slice D.ca D.cs.length D.cc):=by subst hW;go_cell
 have kc:W.cell? ⟨w.heap.size+1,0,none⟩=some (.int .i64 call):=by subst hW;go_cell
 have hask:=yF D W (h.keep hBW) hs (hG.keep hBW) 43 #[pt (w.heap.size+1)] (cE 43 (by decide +kernel)) (za call D.cs.length) (fun M V hM hB=>qeF D (some M) (w.heap.size+1) call V (qb _ hB kc) hcl);obtain⟨al,hal⟩:∃al,za call D.cs.length=al:=⟨_,rfl⟩;unfold qdR;rw[hal]at hask⊢;have hdv:dv D=.agg #[.slice D.ta D.ts.length D.tc,.slice D.ga D.gs.length D.gc,.slice D.oa D.os.length D.oc,.slice D.ha D.hs.length D.hc,.slice D.ca D.cs.length D.cc]:=rfl;rw[hdv]at hask⊢;have HD:=qd (qg h (qg hs hal));clear h hs hG hdv hal;by_cases ha:zt D al=0
 ·have hz:=yj ha;have hix:=Qg (HD.out.2.2.trans hz.2);have hok:=hask.mono (fun e w' h=>h.ok ha);have HA:=qd ha;have HZ:=qd hz.1;clear hask ha hz;go_enter (sf 9 f9),ntmps9;go_upto_region 1 with fail;try rw[hW]
  clear hW;unfold dm at hok;go_upto_region 4 with(go_at_call 42;(with_reducible refine hok.mono ?_);rintro e w1 ⟨M,a,c,rfl,hpos,hlc,hrow,hfr,hst⟩;have hs1:=hst.bel.size);obtain⟨k,rfl⟩:=Int.eq_ofNat_of_zero_le hix.1;have hBV:=(Below.refl w1.heap.size w1).alloc ql (Obj.cells #[.slice D.ta D.ts.length D.tc,.slice D.ga D.gs.length D.gc,.slice D.oa D.os.length D.oc,.slice D.ha D.hs.length D.hc,.slice D.ca D.cs.length D.cc,.map (some M)] 73);have h7:=B6.new w1 (.slice D.ta D.ts.length D.tc) (.slice D.ga D.gs.length D.gc) (.slice D.oa D.os.length D.oc) (.slice D.ha D.hs.length D.hc) (.slice D.ca D.cs.length D.cc) (.map (some M)) 73;have hML:=hst.kn.lt;obtain⟨T,hT⟩:∃T,w1.heap.size=T:=⟨_,rfl⟩;obtain⟨V,hV⟩:∃V,w1.alloc (Obj.cells #[.slice D.ta D.ts.length D.tc,.slice D.ga D.gs.length D.gc,.slice D.oa D.os.length D.oc,.slice D.ha D.hs.length D.hc,.slice D.ca D.cs.length D.cc,.map (some M)] 73)=V:=⟨_,rfl⟩;rw[hV]at h7 hBV⊢;have hsV:=hst.keep hBV;have hrV:=hrow.keep hBV;have kcV:=qb _ hsV.bel kc;rw[hT]at h7 hML⊢;have hga:=Qc D M (fun _=>False) W V hsV (fun b hb=>hb.elim) 46 #[pt T,pt (w.heap.size+1)] (cE 46 (by decide +kernel)) (fun p=>(qD D (setOf p)).getD k 0) (qx D) a c hpos (by have:=zb HZ.out;omega) hlc hrV (fun x hx A V2 hS hA hg=>qeG D M A W V2 hS hA T (w.heap.size+1) (h7.mod (Mod.grown hg (fun b e=>(qz e).symm)) (show ¬T=M by omega)) k (hsV.cell hg kcV) (by omega) x (Qk HZ.out x hx));have HF:=qd (qg hBW hsV);clear h7 hBV hV hrow hrV kcV hst hok hfr k0 k1 k2 k3 k4 kc;go_wp2_with (go_at_call 45;(with_reducible refine hga.mono ?_);rintro e w2 ⟨a2,c2,rfl,hl2,hr2,hf2,hst2,hg2⟩)
  go_ret2
  exact⟨Below.call HF.out.1 hst2.bel (by omega),.inr ⟨HA.out,a2,c2,rfl,hl2,hr2⟩⟩
 ·have hbad:=hask.mono (fun e w' h=>h.bad ha);have hb:(zt D al != 0)=true:=by simpa using ha
  unfold dz at hbad;have HA:=qd ha;clear hask ha
  generalize zt D al=r at *
  go_enter (sf 9 f9),ntmps9;go_upto_region 1 with fail;try rw[hW]
  clear hW;go_wp2_with (go_at_call 42;(with_reducible refine hbad.mono ?_);rintro e w1 ⟨rfl,hB1⟩;have hs1:=hB1.size)
  go_ret2
  exact⟨Below.call hBW (by go_grown) (by omega),.inl ⟨HA.out,rfl⟩⟩
theorem qff(D:DayM)(M:Nat)(A:Nat->Prop)(w0 w:World)(h:St D M A w0 w)(hA:∀b,A b->b<w.heap.size)(db:Nat)(hd:B6 w db (.slice D.ta D.ts.length D.tc) (.slice D.ga D.gs.length D.gc) (.slice D.oa D.os.length D.oc) (.slice D.ha D.hs.length D.hc) (.slice D.ca D.cs.length D.cc) (.map (some M)))(p:PastM)(hp:p.ok) :
 Calls qp 64 #[pvP p,pt db] w fun e w'=>e=.returned (.int .i64 (YX D (setOf p)))/\St D M A w0 w'/\w.grownBy w' (some M):=by
 have hpl:=fun W (hS:St D M A w0 W) (hg:w.grownBy W (some M))=>Jr D M A w0 W hS (setOf p) (by simp[setOf]) hp (by simp[setOf]) (fun b hb=>Nat.lt_of_lt_of_le (hA b hb) hg.size);have has:=fun W=>zX p W;have hml:=h.kn.lt
 generalize YX D (setOf p)=R at *
 generalize setOf p=s at *
 obtain⟨sv,hsv⟩:∃sv,zf s=sv:=⟨_,rfl⟩;rw[hsv]at has;simp only[hsv]at hpl;have HP:=qd hpl;have HAS:=qd has;have HST:=qd h;clear hpl has h hA hp;unfold dm at HP;unfold pvP at HAS⊢;obtain⟨pa,pb,pc,pd⟩:=p
 simp only at *
 generalize Value.slice D.ta D.ts.length D.tc=x0 at *
 generalize Value.slice D.ga D.gs.length D.gc=x1 at *
 generalize Value.slice D.oa D.os.length D.oc=x2 at *
 generalize Value.slice D.ha D.hs.length D.hc=x3 at *
 generalize Value.slice D.ca D.cs.length D.cc=x4 at *
 obtain⟨d0,d1,d2,d3,d4,d5⟩:=hd;have hdl:=lt_of_cell d0;simp only at hdl;go_enter (sf 64 f64),ntmps64;go_upto_region 1 with fail;obtain⟨W,hW⟩:∃W,w.alloc (Obj.cells #[.int .i64 pa,.int .i64 pb,.int .i64 pc,.int .i64 pd] 81)=W:=⟨_,rfl⟩;have hBW:Below w.heap.size w W:=by subst hW;go_grown
 have hS:RG10 D M A w0 W ⟨db,0,none⟩ ⟨db,1,none⟩ ⟨db,2,none⟩ ⟨db,3,none⟩ ⟨db,4,none⟩ ⟨db,5,none⟩ ⟨w.heap.size,0,none⟩ ⟨w.heap.size,1,none⟩ ⟨w.heap.size,2,none⟩ ⟨w.heap.size,3,none⟩ x0 x1 x2 x3 x4 (.map (some M)) (.int .i64 pa) (.int .i64 pb) (.int .i64 pc) (.int .i64 pd) W:=by
  subst hW;exact⟨by go_cell,by go_cell,by go_cell,by go_cell,by go_cell,by go_cell,by go_cell,by go_cell,by go_cell,by go_cell,HST.out.keep hBW,qo (Below.refl _ _)⟩
 rw[hW];clear hW;refine wp_region_held_drew (S:=(RG10 D M A w0 W ⟨db,0,none⟩ ⟨db,1,none⟩ ⟨db,2,none⟩ ⟨db,3,none⟩ ⟨db,4,none⟩ ⟨db,5,none⟩ ⟨w.heap.size,0,none⟩ ⟨w.heap.size,1,none⟩ ⟨w.heap.size,2,none⟩ ⟨w.heap.size,3,none⟩ x0 x1 x2 x3 x4 (.map (some M)) (.int .i64 pa) (.int .i64 pb) (.int .i64 pc) (.int .i64 pd))) (by kernel_rfl) (by exact RGL.drew hS) (fun hHeld=>?_);refine tk 0 ?_;(refine tk 1 ?_;try simp only[zs,Act.put]);refine tkR 2 fun K hK=>?_;go_simp;go_wp2_with (go_at_call 48;(with_reducible refine(HAS.out _).mono ?_);rintro e w1 ⟨rfl,hB1⟩);refine hK.out _ _ (by exact RGL.call hHeld hB1) (fun hHeldN=>?_);clear hK K hHeld;have hHeld:=hHeldN;clear hHeldN;try simp only[zs,Act.put]
 refine tkR 3 fun K hK=>?_;go_simp;go_wp2_with (go_at_call 65;(with_reducible refine(HP.out _ (RGL.st hHeld) (qw (qo hBW) (RGL.gr hHeld))).mono ?_);rintro e w2 ⟨rfl,hst1,hg1⟩);refine hK.out _ _ (by exact RGL.play hHeld hst1 hg1) (fun hHeldN=>?_);clear hK K hHeld;have hHeld:=hHeldN;clear hHeldN;try simp only[zs,Act.put]
 (refine tk 4 ?_;try simp only[zs,Act.put]);refine wpAnyH_done (by kernel_rfl) ?_ _;try simp only[zs,Act.put]
 have hgf:=RGL.gr hHeld;have hsf:=RGL.st hHeld;go_wp2;go_ret;exact⟨rfl,hsf,qw (qo hBW) hgf⟩
abbrev qai(D:DayM):List Int:=qN ((qx D).map fun p=>YX D (setOf p))
def qdZ(l:List Int):Value:=.agg #[.int .i64 (l.getD 0 0),.int .i64 (l.getD (l.length-1) 0)]
def qcH(al:Int)(l:List Int)(w:World)(e:Ending)(w':World):Prop :=
 Below w.heap.size w w'/\((al≠0/\e=.returned (.tuple #[.agg #[.int .i64 0,.int .i64 0],.int .i64 al]))\/(al=0/\e=.returned (.tuple #[qdZ l,.int .i64 0])))
theorem jl{l:List Int}(h:0<l.length):0<(qN l).length:=by
 unfold qN Lib.compact Lib.compactUpTo;rw[List.length_map];have hm:(l.mergeSort fun x y=>decide (x<=y)).length=l.length:=List.length_mergeSort _
 have e:0∈(List.range (l.mergeSort fun x y=>decide (x<=y)).length).filter (Lib.keeps (l.mergeSort fun x y=>decide (x<=y)).toArray):=by
  rw[List.mem_filter];exact⟨List.mem_range.2 (by omega),Lib.keeps_lt_one _ 0 (by omega)⟩
 exact List.length_pos_of_mem e
theorem Qb(l:List Int):(qN l).length<=l.length:=by
 unfold qN;exact Nat.le_trans (YL _) (by rw[List.length_mergeSort];exact ql)
theorem Js(D:DayM)(w:World)(h:DayAt w D)(hs:DaySm D)(hG:Globs w):Calls qp 16 #[dv D] w (qcH (zt D 0) (qai D) w):=by
 obtain⟨W,hW⟩:∃W,(w.alloc (Obj.cells #[.slice D.ta D.ts.length D.tc,.slice D.ga D.gs.length D.gc,.slice D.oa D.os.length D.oc,.slice D.ha D.hs.length D.hc,.slice D.ca D.cs.length D.cc] 28)).alloc (Obj.cells #[.int .i64 0,.int .i64 0] 40)=W:=⟨_,rfl⟩;have hBW:Below w.heap.size w W:=by subst hW;go_grown
 have hsW:W.heap.size=w.heap.size+2:=by subst hW;simp
 have k0:W.cell? ⟨w.heap.size,0,none⟩=some (.slice D.ta D.ts.length D.tc):=by subst hW;go_cell
 have k1:W.cell? ⟨w.heap.size,1,none⟩=some (.slice D.ga D.gs.length D.gc):=by subst hW;go_cell
 have k2:W.cell? ⟨w.heap.size,2,none⟩=some (.slice D.oa D.os.length D.oc):=by subst hW;go_cell
 have k3:W.cell? ⟨w.heap.size,3,none⟩=some (.slice D.ha D.hs.length D.hc):=by subst hW;go_cell
 have k4:W.cell? ⟨w.heap.size,4,none⟩=some (.slice D.ca D.cs.length D.cc):=by subst hW;go_cell
 have b0:W.cell? ⟨w.heap.size+1,0,none⟩=some (.int .i64 0):=by subst hW;go_cell
 have b1:W.cell? ⟨w.heap.size+1,1,none⟩=some (.int .i64 0):=by subst hW;go_cell
 have g0:W.frozen? ⟨w.heap.size+1,0,none⟩=false:=by subst hW;go_cell
 have g1:W.frozen? ⟨w.heap.size+1,1,none⟩=false:=by subst hW;go_cell
 have hask:=yF D W (h.keep hBW) hs (hG.keep hBW) 63 #[] (cE 63 (by decide +kernel)) 0 (fun M V hM hB=>by unfold dm;exact yV _ _ _ _ _ _ V);have hdv:dv D=.agg #[.slice D.ta D.ts.length D.tc,.slice D.ga D.gs.length D.gc,.slice D.oa D.os.length D.oc,.slice D.ha D.hs.length D.hc,.slice D.ca D.cs.length D.cc]:=rfl;rw[hdv]at hask⊢;have HD:=qd (qg h hs);unfold qcH;clear h hs hG hdv;by_cases ha:zt D 0=0
 ·have hz:=yj ha;have hok:=hask.mono (fun e w' h=>h.ok ha);have HA:=qd ha;have HZ:=qd hz.1;clear hask ha hz;go_enter (sf 16 f16),ntmps16;go_upto_region 1 with fail;try rw[hW]
  clear hW;unfold dm at hok;go_upto_region 4 with(go_at_call 42;(with_reducible refine hok.mono ?_);rintro e w1 ⟨M,a,c,rfl,hpos,hlc,hrow,hfr,hst⟩;have hs1:=hst.bel.size);have hBV:=(Below.refl w1.heap.size w1).alloc ql (Obj.cells #[.slice D.ta D.ts.length D.tc,.slice D.ga D.gs.length D.gc,.slice D.oa D.os.length D.oc,.slice D.ha D.hs.length D.hc,.slice D.ca D.cs.length D.cc,.map (some M)] 73);have h7:=B6.new w1 (.slice D.ta D.ts.length D.tc) (.slice D.ga D.gs.length D.gc) (.slice D.oa D.os.length D.oc) (.slice D.ha D.hs.length D.hc) (.slice D.ca D.cs.length D.cc) (.map (some M)) 73;have hML:=hst.kn.lt;obtain⟨T,hT⟩:∃T,w1.heap.size=T:=⟨_,rfl⟩;obtain⟨V,hV⟩:∃V,w1.alloc (Obj.cells #[.slice D.ta D.ts.length D.tc,.slice D.ga D.gs.length D.gc,.slice D.oa D.os.length D.oc,.slice D.ha D.hs.length D.hc,.slice D.ca D.cs.length D.cc,.map (some M)] 73)=V:=⟨_,rfl⟩;rw[hV]at h7 hBV⊢;have hsV:=hst.keep hBV;have hrV:=hrow.keep hBV;rw[hT]at h7 hML⊢;have hga:=Qc D M (fun _=>False) W V hsV (fun b hb=>hb.elim) 64 #[pt T] (cE 64 (by decide +kernel)) (fun p=>YX D (setOf p)) (qx D) a c hpos (by have:=zb HZ.out;omega) hlc hrV (fun x hx A V2 hS hA hg=>qff D M A W V2 hS hA T (h7.mod (Mod.grown hg (fun b e=>(qz e).symm)) (show ¬T=M by omega)) x (Qk HZ.out x hx));have hll:1<=(qai D).length/\(qai D).length<=1000:=⟨jl (by rw[List.length_map];exact hpos),by have:=zb HZ.out;have h9:=Qb ((qx D).map fun p=>YX D (setOf p));rw[List.length_map]at h9;exact Nat.le_trans h9 (by omega)⟩;have HF:=qd (qg hBW hsV);clear h7 hBV hV hrow hrV hst hok hfr k0 k1 k2 k3 k4
  go_wp2_with (first|(go_at_call 45;(with_reducible refine hga.mono ?_);rintro e w2 ⟨a2,c2,rfl,hl2,hr2,hf2,hst2,hg2⟩)|(go_at_call 57;(with_reducible refine(XA (qai D) a2 c2 hll.1 hl2 hll.2 _ hr2).mono ?_);rintro e w3 ⟨rfl,hB3⟩;have hB4:=Below.call hst2.bel hB3 (by have:=hst2.bel.size;omega);have c0:=qb _ hB4 b0;have c1:=qb _ hB4 b1;have f0:=qf _ hB4 b0 g0;have f1:=qf _ hB4 b1 g1));refine LoadR.ret_ct2 results16 jY je rfl rfl c0 c1 ⟨?_,.inr ⟨HA.out,rfl⟩⟩;exact LoadR.Below.set2 (Below.call HF.out.1 hB4 (by omega)) (by omega)
 ·have hbad:=hask.mono (fun e w' h=>h.bad ha);have hb:(zt D 0 != 0)=true:=by simpa using ha
  unfold dz at hbad;have HA:=qd ha;clear hask ha
  generalize zt D 0=r at *
  go_enter (sf 16 f16),ntmps16;go_upto_region 1 with fail;try rw[hW]
  clear hW;go_upto_region 3 with(go_at_call 42;(with_reducible refine hbad.mono ?_);rintro e w1 ⟨rfl,hB1⟩;have hs1:=hB1.size);have hBV:=bcl hB1 ((Below.refl w1.heap.size w1).alloc ql (Obj.cells #[.slice none 0 0,.slice none 0 0,.slice none 0 0,.slice none 0 0,.slice none 0 0,.map none] 73));obtain⟨V,hV⟩:∃V,w1.alloc (Obj.cells #[.slice none 0 0,.slice none 0 0,.slice none 0 0,.slice none 0 0,.slice none 0 0,.map none] 73)=V:=⟨_,rfl⟩;rw[hV]at hBV⊢;clear hV hB1;have c0:=qb _ hBV b0;have c1:=qb _ hBV b1;have f0:=qf _ hBV b0 g0;have f1:=qf _ hBV b1 g1;go_wp2;refine LoadR.ret_ct2 results16 jY je rfl rfl c0 c1 ⟨?_,.inl ⟨HA.out,rfl⟩⟩;exact LoadR.Below.set2 (Below.call hBW hBV (by omega)) (by omega)
end Go.Proofs.Tryz
namespace Go.Proofs.Tryz
open Go Go.Load Go.LoadR Go.RowKit Go.Maps
def yo{α:Type}(B:Nat)(w:World)(k:Nat)(enc:α->List Value)(a:Option Addr)(l:List α):Prop :=
 (∀p,a=some p->B<=p.block)/\(1<=l.length->∃g,a=some ⟨g,0,none⟩/\∀(i:Nat) (x:α),l[i]? = some x->∀(j:Nat) (v:Value),(enc x)[j]? = some v->w.cell? ⟨g,i*k+j,none⟩=some v/\w.frozen? ⟨g,i*k+j,none⟩=false)
theorem yo.rows{α:Type}{B:Nat}{w:World}{k:Nat}{enc:α->List Value}{a:Option Addr}{l:List α}(h:yo B w k enc a l):qi w k enc a l:=fun hl=>by
 obtain⟨g,e,h⟩:=h.2 hl;exact⟨g,0,e,fun i x hx j v hv=>by rw[Nat.zero_add];exact(h i x hx j v hv).1⟩
theorem yo.keep{α:Type}{B:Nat}{w w1:World}{k:Nat}{enc:α->List Value}{a:Option Addr}{l:List α}(h:yo B w k enc a l)(hB:Below w.heap.size w w1):yo B w1 k enc a l :=
 ⟨h.1,fun hl=>by
   obtain⟨g,e,h⟩:=h.2 hl
   exact⟨g,e,fun i x hx j v hv=>⟨qb _ hB (h i x hx j v hv).1,qf _ hB (h i x hx j v hv).1 (h i x hx j v hv).2⟩⟩⟩
theorem yo.mod{α:Type}{S:Nat->Prop}{B:Nat}{w w1:World}{k:Nat}{enc:α->List Value}{a:Option Addr}{l:List α}(h:yo B w k enc a l)(hm:Mod S w w1)(hS:∀p,a=some p->¬S p.block):yo B w1 k enc a l :=
 ⟨h.1,fun hl=>by
   obtain⟨g,e,h⟩:=h.2 hl;have hn:=hS _ e
   exact⟨g,e,fun i x hx j v hv=>⟨hm.cell (h i x hx j v hv).1 hn,(hm.frozen (h i x hx j v hv).1 hn).trans (h i x hx j v hv).2⟩⟩⟩
theorem yo.from{α:Type}{B B':Nat}{w:World}{k:Nat}{enc:α->List Value}{a:Option Addr}{l:List α}(h:yo B w k enc a l)(hB:B'<=B):yo B' w k enc a l:=⟨fun p e=>Nat.le_trans hB (h.1 p e),h.2⟩
theorem yS{α:Type}{k:Nat}{enc:α->List Value}(he:∀x,(enc x).length=k):∀l:List α,(l.flatMap enc).length=l.length*k
 | []=>by simp
 | x::l=>by rw[List.flatMap_cons,List.length_append,he,yS he l,List.length_cons,Nat.add_mul];omega
theorem flat_get{α:Type}{k:Nat}{enc:α->List Value}(he:∀x,(enc x).length=k):∀(l:List α) (i j:Nat) (x:α) (v:Value),l[i]? = some x->(enc x)[j]? = some v->(l.flatMap enc)[i*k+j]? = some v
 | [],i,j,x,v,h,_=>by simp at h
 | y::l,0,j,x,v,h,hv=>by
   obtain rfl:y=x:=(by simpa using h);have hj:=(qB hv).1;rw[List.flatMap_cons,List.getElem?_append_left (by omega),Nat.zero_mul,Nat.zero_add];exact hv
 | y::l,i+1,j,x,v,h,hv=>by
   rw[List.flatMap_cons,List.getElem?_append_right (by rw[he,Nat.add_mul];omega)];have e:(i+1)*k+j-(enc y).length=i*k+j:=(by rw[he,Nat.add_mul];omega);rw[e];exact flat_get he l i j x v (by simpa using h) hv
theorem xE{α:Type}{k:Nat}{enc:α->List Value}(he:∀x,(enc x).length=k)(hk:0<k){W:World}{ad:Addr}{l:List α}(h:qi W k enc (some ad) l):∀j u,(l.flatMap enc)[j]? = some u->W.cell? (ad.add j)=some u:=fun j u hu=>by
 have hj:j<l.length*k:=by have:=(qB hu).1;rwa[yS he]at this
 have hl:1<=l.length:=by
  cases l with
  | nil=>simp at hj
  | cons x l=>simp
 obtain⟨b,o,e,hc⟩:=h hl;cases e;have hd:j/k<l.length:=Nat.div_lt_of_lt_mul (by rw[Nat.mul_comm];exact hj);obtain⟨x,hx⟩:∃x,l[j/k]? = some x:=⟨l[j/k],by simp⟩;have hm:j%k<(enc x).length:=by rw[he];exact Nat.mod_lt _ hk
 obtain⟨v,hv⟩:∃v,(enc x)[j%k]? = some v:=⟨(enc x)[j%k],by simp⟩;have hg:=flat_get he l (j/k) (j%k) x v hx hv;have ej:j/k*k+j%k=j:=by rw[Nat.mul_comm];exact Nat.div_add_mod j k
 rw[ej,hu]at hg;cases hg;have hcc:=hc (j/k) x hx (j%k) u hv;have ha:(⟨b,o,none⟩:Addr).add j=⟨b,o+j,none⟩:=by unfold Addr.add;split<;>simp_all
 rw[ha];rw[show o+j/k*k+j%k=o+j by omega]at hcc;exact hcc
theorem zV{α:Type}{W:World}{base e n k:Nat}{v:Value}{enc:α->List Value}{l:List α}(he:∀x,(enc x).length=k)(h:W.ownsRow base e k v n (l.flatMap enc))(hv:v≠.slice none 0 0):∃g cap,v=.slice (some ⟨g,0,none⟩) n cap/\n<=cap/\yo base W k enc (some ⟨g,0,none⟩) l:=by
 obtain⟨_,h|⟨g,cap,cur,rfl,hb,hg,hn,_,hs,ht⟩⟩:=h
 ·exact absurd h.1 hv
 ·refine⟨g,cap,rfl,hn,fun p e=>by cases e;exact hb,fun _=>⟨g,rfl,fun i x hx j u hu=>?_⟩⟩;have hh:=flat_get he l i j x u hx hu;rw[<-ht,List.getElem?_take]at hh;split at hh
  ·have hh:cur[i*k+j]? = some u:=(by simpa using hh);exact⟨by unfold World.cell?;rw[hg];simp[hh],by unfold World.frozen?;rw[hg];simp⟩
  ·cases hh
def ZQ{α:Type}(k:Nat)(enc:α->List Value)(l:List α)(n:Nat)(w:World)(e:Ending)(w':World):Prop:=∃a' c',e=.returned (.slice a' n c')/\n<=c'/\yo w.heap.size w' k enc a' l/\(a'=none->n=0)/\Below w.heap.size w w'
theorem infoCInt:(qp.info? 3).map (fun i=>(i.zero,i.size,i.bytes))=some (some (.int .i64 0),1,8):=by kernel_rfl
theorem qfu(l:List Int):∀u∈l.flatMap encI,u.oneCell'=true:=fun u hu=>by
 obtain⟨x,_,hx⟩:=List.mem_flatMap.1 hu;simp[encI]at hx;rcases hx with rfl;all_goals rfl
theorem Je(l:List Int)(a:Option Addr)(c:Nat)(hl:l.length<=1000)(h0:a=none->l.length=0)(w:World)(hr:qi w 1 encI a l) :
 Calls qp 75 #[.slice a l.length c] w (ZQ 1 encI l l.length w):=by
 obtain⟨i0,hi,hz0,hz1,hz2⟩:=info_parts infoCInt;have hU:qp.underlying 31=some (.slice 3):=(qF _).trans Tryz.underlying31;have hnil:=fun w=>Lib.run_eql_slice_nil (P:=qp) w 31 3 a l.length c 0 0 hU
 cases a with
 | none =>
   have hlz:=h0 rfl;rw[hlz];rw[hlz]at hnil;go_enter (sf 75 f75),ntmps75;go_wp2;go_ret;exact⟨none,0,rfl,ql,⟨fun p e=>(by cases e),fun h=>(by omega)⟩,fun _=>rfl,Below.refl _ _⟩
 | some ad =>
   have HP:=qd (xE (k:=1) (fun _=>rfl) (by omega) hr);have HN:=qd (yS (k:=1) (enc:=encI) (fun _=>rfl) l);have HO:=qd (qfu l);clear hr h0;go_enter (sf 75 f75),ntmps75;go_wp2_with (at_builtin;refine wpList_append_own _ rfl (.tmp 5) (.tmp 6) 31 rfl w.heap.size 3 i0 (.int .i64 0) 1 8 hU hi hz0 hz1 hz2 rfl (by decide) _ 0 [] rfl (World.ownsRow_made w #[] 0 ql (by unfold maxLen;omega) rfl) ad l.length c (l.flatMap encI) rfl HN.out (fun j u hu=>yO (HP.out j u hu)) HO.out (by unfold maxLen;omega) (by omega) (by simp) ?_;intro v1 w3 hown1 hgrow1 hnil1);go_ret;rw[List.nil_append]at hown1;obtain⟨g,cap,e1,e4,e5⟩:=zV (enc:=encI) (k:=1) (fun _=>rfl) hown1 (fun e=>by have:=(hnil1.1 e).1;cases this);rw[Nat.zero_add]at e1 e4;exact⟨_,cap,by rw[e1];rfl,e4,e5,(fun h=>by cases h),((Below.refl _ w).alloc ql _).grown hgrow1 (by simp) (fun k hk=>by cases hk;exact ql)⟩
theorem infoCStr:(qp.info? 9).map (fun i=>(i.zero,i.size,i.bytes))=some (some (.string ⟨#[]⟩),1,16):=by kernel_rfl
theorem oneCStr(l:List ByteArray):∀u∈l.flatMap encS,u.oneCell'=true:=fun u hu=>by
 obtain⟨x,_,hx⟩:=List.mem_flatMap.1 hu;simp[encS]at hx;rcases hx with rfl;all_goals rfl
theorem cloneStr(l:List ByteArray)(a:Option Addr)(c:Nat)(hl:l.length<=1000)(h0:a=none->l.length=0)(w:World)(hr:qi w 1 encS a l) :
 Calls qp 112 #[.slice a l.length c] w (ZQ 1 encS l l.length w):=by
 obtain⟨i0,hi,hz0,hz1,hz2⟩:=info_parts infoCStr;have hU:qp.underlying 22=some (.slice 9):=(qF _).trans Tryz.underlying22;have hnil:=fun w=>Lib.run_eql_slice_nil (P:=qp) w 22 9 a l.length c 0 0 hU
 cases a with
 | none =>
   have hlz:=h0 rfl;rw[hlz];rw[hlz]at hnil;go_enter (sf 112 f112),ntmps112;go_wp2;go_ret;exact⟨none,0,rfl,ql,⟨fun p e=>(by cases e),fun h=>(by omega)⟩,fun _=>rfl,Below.refl _ _⟩
 | some ad =>
   have HP:=qd (xE (k:=1) (fun _=>rfl) (by omega) hr);have HN:=qd (yS (k:=1) (enc:=encS) (fun _=>rfl) l);have HO:=qd (oneCStr l);clear hr h0;go_enter (sf 112 f112),ntmps112;go_wp2_with (at_builtin;refine wpList_append_own _ rfl (.tmp 5) (.tmp 6) 22 rfl w.heap.size 9 i0 (.string ⟨#[]⟩) 1 16 hU hi hz0 hz1 hz2 rfl (by decide) _ 0 [] rfl (World.ownsRow_made w #[] 0 ql (by unfold maxLen;omega) rfl) ad l.length c (l.flatMap encS) rfl HN.out (fun j u hu=>yO (HP.out j u hu)) HO.out (by unfold maxLen;omega) (by omega) (by simp) ?_;intro v1 w3 hown1 hgrow1 hnil1);go_ret;rw[List.nil_append]at hown1;obtain⟨g,cap,e1,e4,e5⟩:=zV (enc:=encS) (k:=1) (fun _=>rfl) hown1 (fun e=>by have:=(hnil1.1 e).1;cases this);rw[Nat.zero_add]at e1 e4;exact⟨_,cap,by rw[e1];rfl,e4,e5,(fun h=>by cases h),((Below.refl _ w).alloc ql _).grown hgrow1 (by simp) (fun k hk=>by cases hk;exact ql)⟩
theorem infoCGrp:(qp.info? 120).map (fun i=>(i.zero,i.size,i.bytes))=some (some (.agg #[.int .i64 0,.int .i64 0,.int .i64 0,.int .i64 0]),4,32):=by kernel_rfl
theorem oneCGrp(l:List GrpM):∀u∈l.flatMap JV,u.oneCell'=true:=fun u hu=>by
 obtain⟨x,_,hx⟩:=List.mem_flatMap.1 hu;simp[JV]at hx;rcases hx with rfl|rfl|rfl|rfl;all_goals rfl
theorem cloneGrp(l:List GrpM)(a:Option Addr)(c:Nat)(hl:l.length<=1000)(h0:a=none->l.length=0)(w:World)(hr:qi w 4 JV a l) :
 Calls qp 113 #[.slice a l.length c] w (ZQ 4 JV l l.length w):=by
 obtain⟨i0,hi,hz0,hz1,hz2⟩:=info_parts infoCGrp;have hU:qp.underlying 23=some (.slice 120):=(qF _).trans Tryz.underlying23;have hnil:=fun w=>Lib.run_eql_slice_nil (P:=qp) w 23 120 a l.length c 0 0 hU
 cases a with
 | none =>
   have hlz:=h0 rfl;rw[hlz];rw[hlz]at hnil;go_enter (sf 113 f113),ntmps113;go_wp2;go_ret;exact⟨none,0,rfl,ql,⟨fun p e=>(by cases e),fun h=>(by omega)⟩,fun _=>rfl,Below.refl _ _⟩
 | some ad =>
   have HP:=qd (xE (k:=4) (fun _=>rfl) (by omega) hr);have HN:=qd (yS (k:=4) (enc:=JV) (fun _=>rfl) l);have HO:=qd (oneCGrp l);clear hr h0;go_enter (sf 113 f113),ntmps113;go_wp2_with (at_builtin;refine wpList_append_own _ rfl (.tmp 5) (.tmp 6) 23 rfl w.heap.size 120 i0 (.agg #[.int .i64 0,.int .i64 0,.int .i64 0,.int .i64 0]) 4 32 hU hi hz0 hz1 hz2 rfl (by decide) _ 0 [] rfl (World.ownsRow_made w #[] 0 ql (by unfold maxLen;omega) rfl) ad l.length c (l.flatMap JV) rfl HN.out (fun j u hu=>yO (HP.out j u hu)) HO.out (by unfold maxLen;omega) (by omega) (by simp) ?_;intro v1 w3 hown1 hgrow1 hnil1);go_ret;rw[List.nil_append]at hown1;obtain⟨g,cap,e1,e4,e5⟩:=zV (enc:=JV) (k:=4) (fun _=>rfl) hown1 (fun e=>by have:=(hnil1.1 e).1;cases this);rw[Nat.zero_add]at e1 e4;exact⟨_,cap,by rw[e1];rfl,e4,e5,(fun h=>by cases h),((Below.refl _ w).alloc ql _).grown hgrow1 (by simp) (fun k hk=>by cases hk;exact ql)⟩
theorem infoCHld:(qp.info? 118).map (fun i=>(i.zero,i.size,i.bytes))=some (some (.agg #[.int .i64 0,.int .i64 0,.int .i64 0,.int .i64 0]),4,32):=by kernel_rfl
theorem oneCHld(l:List HldM):∀u∈l.flatMap qcV,u.oneCell'=true:=fun u hu=>by
 obtain⟨x,_,hx⟩:=List.mem_flatMap.1 hu;simp[qcV]at hx;rcases hx with rfl|rfl|rfl|rfl;all_goals rfl
theorem cloneHld(l:List HldM)(a:Option Addr)(c:Nat)(hl:l.length<=1000)(h0:a=none->l.length=0)(w:World)(hr:qi w 4 qcV a l) :
 Calls qp 114 #[.slice a l.length c] w (ZQ 4 qcV l l.length w):=by
 obtain⟨i0,hi,hz0,hz1,hz2⟩:=info_parts infoCHld;have hU:qp.underlying 25=some (.slice 118):=(qF _).trans Tryz.underlying25;have hnil:=fun w=>Lib.run_eql_slice_nil (P:=qp) w 25 118 a l.length c 0 0 hU
 cases a with
 | none =>
   have hlz:=h0 rfl;rw[hlz];rw[hlz]at hnil;go_enter (sf 114 f114),ntmps114;go_wp2;go_ret;exact⟨none,0,rfl,ql,⟨fun p e=>(by cases e),fun h=>(by omega)⟩,fun _=>rfl,Below.refl _ _⟩
 | some ad =>
   have HP:=qd (xE (k:=4) (fun _=>rfl) (by omega) hr);have HN:=qd (yS (k:=4) (enc:=qcV) (fun _=>rfl) l);have HO:=qd (oneCHld l);clear hr h0;go_enter (sf 114 f114),ntmps114;go_wp2_with (at_builtin;refine wpList_append_own _ rfl (.tmp 5) (.tmp 6) 25 rfl w.heap.size 118 i0 (.agg #[.int .i64 0,.int .i64 0,.int .i64 0,.int .i64 0]) 4 32 hU hi hz0 hz1 hz2 rfl (by decide) _ 0 [] rfl (World.ownsRow_made w #[] 0 ql (by unfold maxLen;omega) rfl) ad l.length c (l.flatMap qcV) rfl HN.out (fun j u hu=>yO (HP.out j u hu)) HO.out (by unfold maxLen;omega) (by omega) (by simp) ?_;intro v1 w3 hown1 hgrow1 hnil1);go_ret;rw[List.nil_append]at hown1;obtain⟨g,cap,e1,e4,e5⟩:=zV (enc:=qcV) (k:=4) (fun _=>rfl) hown1 (fun e=>by have:=(hnil1.1 e).1;cases this);rw[Nat.zero_add]at e1 e4;exact⟨_,cap,by rw[e1];rfl,e4,e5,(fun h=>by cases h),((Below.refl _ w).alloc ql _).grown hgrow1 (by simp) (fun k hk=>by cases hk;exact ql)⟩
theorem infoCCal:(qp.info? 99).map (fun i=>(i.zero,i.size,i.bytes))=some (some (.agg #[.int .i64 0,.int .i64 0,.int .i64 0,.int .i64 0,.int .i64 0]),5,40):=by kernel_rfl
theorem oneCCal(l:List CalM):∀u∈l.flatMap YQ,u.oneCell'=true:=fun u hu=>by
 obtain⟨x,_,hx⟩:=List.mem_flatMap.1 hu;simp[YQ]at hx;rcases hx with rfl|rfl|rfl|rfl|rfl;all_goals rfl
theorem cloneCal(l:List CalM)(a:Option Addr)(c:Nat)(hl:l.length<=1000)(h0:a=none->l.length=0)(w:World)(hr:qi w 5 YQ a l) :
 Calls qp 115 #[.slice a l.length c] w (ZQ 5 YQ l l.length w):=by
 obtain⟨i0,hi,hz0,hz1,hz2⟩:=info_parts infoCCal;have hU:qp.underlying 26=some (.slice 99):=(qF _).trans Tryz.underlying26;have hnil:=fun w=>Lib.run_eql_slice_nil (P:=qp) w 26 99 a l.length c 0 0 hU
 cases a with
 | none =>
   have hlz:=h0 rfl;rw[hlz];rw[hlz]at hnil;go_enter (sf 115 f115),ntmps115;go_wp2;go_ret;exact⟨none,0,rfl,ql,⟨fun p e=>(by cases e),fun h=>(by omega)⟩,fun _=>rfl,Below.refl _ _⟩
 | some ad =>
   have HP:=qd (xE (k:=5) (fun _=>rfl) (by omega) hr);have HN:=qd (yS (k:=5) (enc:=YQ) (fun _=>rfl) l);have HO:=qd (oneCCal l);clear hr h0;go_enter (sf 115 f115),ntmps115;go_wp2_with (at_builtin;refine wpList_append_own _ rfl (.tmp 5) (.tmp 6) 26 rfl w.heap.size 99 i0 (.agg #[.int .i64 0,.int .i64 0,.int .i64 0,.int .i64 0,.int .i64 0]) 5 40 hU hi hz0 hz1 hz2 rfl (by decide) _ 0 [] rfl (World.ownsRow_made w #[] 0 ql (by unfold maxLen;omega) rfl) ad l.length c (l.flatMap YQ) rfl HN.out (fun j u hu=>yO (HP.out j u hu)) HO.out (by unfold maxLen;omega) (by omega) (by simp) ?_;intro v1 w3 hown1 hgrow1 hnil1);go_ret;rw[List.nil_append]at hown1;obtain⟨g,cap,e1,e4,e5⟩:=zV (enc:=YQ) (k:=5) (fun _=>rfl) hown1 (fun e=>by have:=(hnil1.1 e).1;cases this);rw[Nat.zero_add]at e1 e4;exact⟨_,cap,by rw[e1];rfl,e4,e5,(fun h=>by cases h),((Below.refl _ w).alloc ql _).grown hgrow1 (by simp) (fun k hk=>by cases hk;exact ql)⟩
theorem infoCOrd:(qp.info? 65).map (fun i=>(i.zero,i.size,i.bytes))=some (some (.agg #[.int .i64 0,.int .i64 0,.slice none 0 0]),3,40):=by kernel_rfl
theorem oneCOrd(l:List OrdM):∀u∈l.flatMap Yf,u.oneCell'=true:=fun u hu=>by
 obtain⟨x,_,hx⟩:=List.mem_flatMap.1 hu;simp[Yf]at hx;rcases hx with rfl|rfl|rfl;all_goals rfl
theorem cloneOrd(l:List OrdM)(a:Option Addr)(c:Nat)(hl:l.length<=1000)(h0:a=none->l.length=0)(w:World)(hr:qi w 3 Yf a l) :
 Calls qp 116 #[.slice a l.length c] w (ZQ 3 Yf l l.length w):=by
 obtain⟨i0,hi,hz0,hz1,hz2⟩:=info_parts infoCOrd;have hU:qp.underlying 24=some (.slice 65):=(qF _).trans Tryz.underlying24;have hnil:=fun w=>Lib.run_eql_slice_nil (P:=qp) w 24 65 a l.length c 0 0 hU
 cases a with
 | none =>
   have hlz:=h0 rfl;rw[hlz];rw[hlz]at hnil;go_enter (sf 116 f116),ntmps116;go_wp2;go_ret;exact⟨none,0,rfl,ql,⟨fun p e=>(by cases e),fun h=>(by omega)⟩,fun _=>rfl,Below.refl _ _⟩
 | some ad =>
   have HP:=qd (xE (k:=3) (fun _=>rfl) (by omega) hr);have HN:=qd (yS (k:=3) (enc:=Yf) (fun _=>rfl) l);have HO:=qd (oneCOrd l);clear hr h0;go_enter (sf 116 f116),ntmps116;go_wp2_with (at_builtin;refine wpList_append_own _ rfl (.tmp 5) (.tmp 6) 24 rfl w.heap.size 65 i0 (.agg #[.int .i64 0,.int .i64 0,.slice none 0 0]) 3 40 hU hi hz0 hz1 hz2 rfl (by decide) _ 0 [] rfl (World.ownsRow_made w #[] 0 ql (by unfold maxLen;omega) rfl) ad l.length c (l.flatMap Yf) rfl HN.out (fun j u hu=>yO (HP.out j u hu)) HO.out (by unfold maxLen;omega) (by omega) (by simp) ?_;intro v1 w3 hown1 hgrow1 hnil1);go_ret;rw[List.nil_append]at hown1;obtain⟨g,cap,e1,e4,e5⟩:=zV (enc:=Yf) (k:=3) (fun _=>rfl) hown1 (fun e=>by have:=(hnil1.1 e).1;cases this);rw[Nat.zero_add]at e1 e4;exact⟨_,cap,by rw[e1];rfl,e4,e5,(fun h=>by cases h),((Below.refl _ w).alloc ql _).grown hgrow1 (by simp) (fun k hk=>by cases hk;exact ql)⟩
theorem infoCWay:(qp.info? 31).map (fun i=>(i.zero,i.size,i.bytes))=some (some (.slice none 0 0),1,24):=by kernel_rfl
theorem oneCWay(l:List WayM):∀u∈l.flatMap xu,u.oneCell'=true:=fun u hu=>by
 obtain⟨x,_,hx⟩:=List.mem_flatMap.1 hu;simp[xu]at hx;rcases hx with rfl;all_goals rfl
theorem cloneWay(l:List WayM)(a:Option Addr)(c:Nat)(hl:l.length<=1000)(h0:a=none->l.length=0)(w:World)(hr:qi w 1 xu a l) :
 Calls qp 117 #[.slice a l.length c] w (ZQ 1 xu l l.length w):=by
 obtain⟨i0,hi,hz0,hz1,hz2⟩:=info_parts infoCWay;have hU:qp.underlying 45=some (.slice 31):=(qF _).trans Tryz.underlying45;have hnil:=fun w=>Lib.run_eql_slice_nil (P:=qp) w 45 31 a l.length c 0 0 hU
 cases a with
 | none =>
   have hlz:=h0 rfl;rw[hlz];rw[hlz]at hnil;go_enter (sf 117 f117),ntmps117;go_wp2;go_ret;exact⟨none,0,rfl,ql,⟨fun p e=>(by cases e),fun h=>(by omega)⟩,fun _=>rfl,Below.refl _ _⟩
 | some ad =>
   have HP:=qd (xE (k:=1) (fun _=>rfl) (by omega) hr);have HN:=qd (yS (k:=1) (enc:=xu) (fun _=>rfl) l);have HO:=qd (oneCWay l);clear hr h0;go_enter (sf 117 f117),ntmps117;go_wp2_with (at_builtin;refine wpList_append_own _ rfl (.tmp 5) (.tmp 6) 45 rfl w.heap.size 31 i0 (.slice none 0 0) 1 24 hU hi hz0 hz1 hz2 rfl (by decide) _ 0 [] rfl (World.ownsRow_made w #[] 0 ql (by unfold maxLen;omega) rfl) ad l.length c (l.flatMap xu) rfl HN.out (fun j u hu=>yO (HP.out j u hu)) HO.out (by unfold maxLen;omega) (by omega) (by simp) ?_;intro v1 w3 hown1 hgrow1 hnil1);go_ret;rw[List.nil_append]at hown1;obtain⟨g,cap,e1,e4,e5⟩:=zV (enc:=xu) (k:=1) (fun _=>rfl) hown1 (fun e=>by have:=(hnil1.1 e).1;cases this);rw[Nat.zero_add]at e1 e4;exact⟨_,cap,by rw[e1];rfl,e4,e5,(fun h=>by cases h),((Below.refl _ w).alloc ql _).grown hgrow1 (by simp) (fun k hk=>by cases hk;exact ql)⟩
end Go.Proofs.Tryz
namespace Go.Proofs.Tryz
open Go Go.Load Go.LoadR Go.RowKit
def HistP(D:DayM)(w:World)(e:Ending)(w':World):Prop :=
 e=.returned (.tuple #[.int .i64 (if checkN D≠0 then 0 else(qx D).length),.int .i64 (checkN D)])/\Below w.heap.size w w'
theorem St.open{D:DayM}{M:Nat}{A:Nat->Prop}{w0 w:World}(h0:DayAt w0 D)(hs:DaySm D)(hz:checkN D=0)(hB:Below w0.heap.size w0 w)(hM:w0.heap.size<=M)(hG:Qu zf w M (fun _=>none)):St D M A w0 w :=
 ⟨hB,hM,h0,hs,qY D hz,⟨fun _=>none,hG,fun s v hv=>by cases hv⟩⟩
theorem Jo(D:DayM)(w:World)(h:DayAt w D)(hs:DaySm D)(hG:Globs w):Calls qp 27 #[dv D] w (HistP D w):=by
 obtain⟨W,hW⟩:∃W,w.alloc (Obj.cells #[.slice D.ta D.ts.length D.tc,.slice D.ga D.gs.length D.gc,.slice D.oa D.os.length D.oc,.slice D.ha D.hs.length D.hc,.slice D.ca D.cs.length D.cc] 28)=W:=⟨_,rfl⟩;have hBW:Below w.heap.size w W:=by subst hW;go_grown
 have hsW:W.heap.size=w.heap.size+1:=by subst hW;simp
 have k0:W.cell? ⟨w.heap.size,0,none⟩=some (.slice D.ta D.ts.length D.tc):=by subst hW;go_cell
 have k1:W.cell? ⟨w.heap.size,1,none⟩=some (.slice D.ga D.gs.length D.gc):=by subst hW;go_cell
 have k2:W.cell? ⟨w.heap.size,2,none⟩=some (.slice D.oa D.os.length D.oc):=by subst hW;go_cell
 have k3:W.cell? ⟨w.heap.size,3,none⟩=some (.slice D.ha D.hs.length D.hc):=by subst hW;go_cell
 have k4:W.cell? ⟨w.heap.size,4,none⟩=some (.slice D.ca D.cs.length D.cc):=by subst hW;go_cell
 have hd:=h.keep hBW;have hop:=fun hz=>Jw D W hd hs (hG.keep hBW) hz;have hopb:=fun hz=>Jv D W hd hs (hG.keep hBW) hz;have hdv:dv D=.agg #[.slice D.ta D.ts.length D.tc,.slice D.ga D.gs.length D.gc,.slice D.oa D.os.length D.oc,.slice D.ha D.hs.length D.hc,.slice D.ca D.cs.length D.cc]:=rfl;rw[hdv]at hop hopb⊢;have HD:=qd (qg hd hs);unfold HistP;clear h hs hG hdv hd;by_cases hz:checkN D=0
 ·have hopx:=hop hz;have hhi:=fun M w1 (hB:Below W.heap.size W w1) (hM:W.heap.size<=M) (hg:Qu zf w1 M fun _=>none)=>YV D M (fun _=>False) W w1 (St.open HD.out.1 HD.out.2 hz hB hM hg) (fun b hb=>hb.elim) hz;rw[if_neg (by simpa using hz),hz];have HHI:=qd hhi;clear hop hopb hhi hz;go_enter (sf 27 f27),ntmps27;go_upto_region 1 with fail;try rw[hW]
  clear hW;unfold dm at hopx;go_upto_region 4 with(go_at_call 73;(with_reducible refine hopx.mono ?_);rintro e w1 ⟨M,rfl,hM,hg,hB1⟩;have hs1:=hB1.size);have hBV:=(Below.refl w1.heap.size w1).alloc ql (Obj.cells #[.slice D.ta D.ts.length D.tc,.slice D.ga D.gs.length D.gc,.slice D.oa D.os.length D.oc,.slice D.ha D.hs.length D.hc,.slice D.ca D.cs.length D.cc,.map (some M)] 73);have h7:=B6.new w1 (.slice D.ta D.ts.length D.tc) (.slice D.ga D.gs.length D.gc) (.slice D.oa D.os.length D.oc) (.slice D.ha D.hs.length D.hc) (.slice D.ca D.cs.length D.cc) (.map (some M)) 73;obtain⟨V,hV⟩:∃V,w1.alloc (Obj.cells #[.slice D.ta D.ts.length D.tc,.slice D.ga D.gs.length D.gc,.slice D.oa D.os.length D.oc,.slice D.ha D.hs.length D.hc,.slice D.ca D.cs.length D.cc,.map (some M)] 73)=V:=⟨_,rfl⟩;rw[hV]at h7 hBV⊢;have hh:=HHI.out M V (bcl hB1 hBV) hM (hg.keep hBV);unfold dm at hh;obtain⟨t0,t1,t2,t3,t4,t5⟩:=h7;clear hV hB1 hBV hg hopx k0 k1 k2 k3 k4;go_wp2_with (go_at_call 81;(with_reducible refine hh.mono ?_);rintro e w2 ⟨a,c,rfl,hlc,hrow,hfr,hst,hg2⟩)
  go_ret2
  exact⟨rfl,Below.call hBW hst.bel (by omega)⟩
 ·have hopx:=hopb hz;rw[if_pos hz];have hb:(checkN D != 0)=true:=by simpa using hz
  unfold dz at hopx;clear hop hopb hz
  generalize checkN D=r at *
  go_enter (sf 27 f27),ntmps27;go_upto_region 1 with fail;try rw[hW]
  clear hW;go_wp2_with (go_at_call 73;(with_reducible refine hopx.mono ?_);rintro e w1 ⟨rfl,hB1⟩;have hs1:=hB1.size)
  go_ret2
  exact⟨rfl,Below.call hBW (by go_grown) (by omega)⟩
def refN(l:List Int):Int:=if l.getD 0 0≠-1 then 2 else if l.length=1 then 1 else 0
def RefP(D:DayM)(call:Int)(w:World)(e:Ending)(w':World):Prop :=
 e=.returned (.tuple #[.int .i64 (if zt D (za call D.cs.length)≠0 then 0 else refN (yP D call.toNat)),.int .i64 (zt D (za call D.cs.length))])/\Below w.heap.size w w'
theorem jA(D:DayM)(w:World)(h:DayAt w D)(hs:DaySm D)(hG:Globs w)(call:Int):Calls qp 12 #[dv D,.int .i64 call] w (RefP D call w):=by
 obtain⟨W,hW⟩:∃W,w.alloc (Obj.cells #[.slice D.ta D.ts.length D.tc,.slice D.ga D.gs.length D.gc,.slice D.oa D.os.length D.oc,.slice D.ha D.hs.length D.hc,.slice D.ca D.cs.length D.cc] 28)=W:=⟨_,rfl⟩;have hBW:Below w.heap.size w W:=by subst hW;go_grown
 have hsW:W.heap.size=w.heap.size+1:=by subst hW;simp
 have k0:W.cell? ⟨w.heap.size,0,none⟩=some (.slice D.ta D.ts.length D.tc):=by subst hW;go_cell
 have k1:W.cell? ⟨w.heap.size,1,none⟩=some (.slice D.ga D.gs.length D.gc):=by subst hW;go_cell
 have k2:W.cell? ⟨w.heap.size,2,none⟩=some (.slice D.oa D.os.length D.oc):=by subst hW;go_cell
 have k3:W.cell? ⟨w.heap.size,3,none⟩=some (.slice D.ha D.hs.length D.hc):=by subst hW;go_cell
 have k4:W.cell? ⟨w.heap.size,4,none⟩=some (.slice D.ca D.cs.length D.cc):=by subst hW;go_cell
 have hgo:=Yq D W (h.keep hBW) hs (hG.keep hBW) call;have hdv:dv D=.agg #[.slice D.ta D.ts.length D.tc,.slice D.ga D.gs.length D.gc,.slice D.oa D.os.length D.oc,.slice D.ha D.hs.length D.hc,.slice D.ca D.cs.length D.cc]:=rfl;rw[hdv]at hgo⊢;unfold RefP;unfold qdR at hgo;clear h hs hG hdv
 have hpos:zt D (za call D.cs.length)=0->0<(yP D call.toNat).length/\(yP D call.toNat).length<=1000:=fun ha=>by
  have hp:0<(qx D).length:=by
   unfold zt at ha;have hz:=yj ha;rw[if_neg (by simpa using hz.1),if_neg (by simpa using hz.2)]at ha;by_cases h0:(qx D).length=0
   ·rw[if_pos h0]at ha;cases ha
   ·omega
  refine⟨jl (by rw[List.length_map];exact hp),?_⟩;have h9:=Qb ((qx D).map fun p=>(qD D (setOf p)).getD call.toNat 0);rw[List.length_map]at h9;have:=zb (yj ha).1;exact Nat.le_trans h9 (by omega)
 generalize yP D call.toNat=l at *
 generalize zt D (za call D.cs.length)=r at *
 by_cases ha:r=0
 ·subst ha;obtain⟨hp1,hp2⟩:=hpos rfl
  have hgo2:Calls qp 9 #[.agg #[.slice D.ta D.ts.length D.tc,.slice D.ga D.gs.length D.gc,.slice D.oa D.os.length D.oc,.slice D.ha D.hs.length D.hc,.slice D.ca D.cs.length D.cc],.int .i64 call] W fun e w'=>∃a c,e=.returned (.tuple #[.slice a l.length c,.int .i64 0])/\l.length<=c/\qi w' 1 encI a l/\Below W.heap.size W w':=hgo.mono fun e w' hh=>by
   rcases hh with⟨hB,hh|hh⟩
   ·exact absurd rfl hh.1
   ·obtain⟨-,a,c,h1,h2,h3⟩:=hh;exact⟨a,c,h1,h2,h3,hB⟩
  clear hgo hpos;obtain⟨x,hx⟩:∃x,l[0]? = some x:=⟨l[0],by simp⟩;have hgx:l.getD 0 0=x:=by rw[List.getD_eq_getElem?_getD,hx];rfl
  have hR:(if(0:Int)≠0 then(0:Int)else refN l)=refN l:=by simp
  rw[hR];clear hR;unfold refN;rw[hgx];obtain⟨N,hN⟩:∃N,l.length=N+1:=⟨l.length-1,by omega⟩;have hn1:(0:Int)<((N+1:Nat):Int):=by omega
  have HX:=qd hx;rw[hN]at hgo2⊢;clear hx hgx;by_cases hx1:x=-1
  ·subst hx1;rw[if_neg (by simp)];by_cases h1:N=0
   ·subst h1;rw[if_pos rfl];go_enter (sf 12 f12),ntmps12;go_upto_region 1 with fail;(try rw[hW]);clear hW;go_upto_region 2 with(go_at_call 9;(with_reducible refine hgo2.mono ?_);rintro e w1 ⟨a,c,rfl,hlc,hrow,hB1⟩;have hs1:=hB1.size);obtain⟨b,o,rfl,hP⟩:=hrow (by omega);have c0:=hP 0 _ HX.out 0 _ rfl;simp only[Nat.zero_mul,Nat.add_zero]at c0;clear hP hrow;go_wp2
    go_ret2
    exact⟨rfl,Below.call hBW hB1 (by omega)⟩
   ·rw[if_neg (by omega)];have hb:(((N+1:Nat):Int)==1)=false:=(by rw[beq_eq_false_iff_ne];omega);go_enter (sf 12 f12),ntmps12;go_upto_region 1 with fail;(try rw[hW]);clear hW;go_upto_region 2 with(go_at_call 9;(with_reducible refine hgo2.mono ?_);rintro e w1 ⟨a,c,rfl,hlc,hrow,hB1⟩;have hs1:=hB1.size);obtain⟨b,o,rfl,hP⟩:=hrow (by omega);have c0:=hP 0 _ HX.out 0 _ rfl;simp only[Nat.zero_mul,Nat.add_zero]at c0;clear hP hrow;go_wp2
    go_ret2
    exact⟨rfl,Below.call hBW hB1 (by omega)⟩
  ·rw[if_pos hx1];have hb:(x != -1)=true:=(by simpa using hx1);go_enter (sf 12 f12),ntmps12;go_upto_region 1 with fail;(try rw[hW]);clear hW;go_upto_region 2 with(go_at_call 9;(with_reducible refine hgo2.mono ?_);rintro e w1 ⟨a,c,rfl,hlc,hrow,hB1⟩;have hs1:=hB1.size);obtain⟨b,o,rfl,hP⟩:=hrow (by omega);have c0:=hP 0 _ HX.out 0 _ rfl;simp only[Nat.zero_mul,Nat.add_zero]at c0;clear hP hrow;go_wp2
   go_ret2
   exact⟨rfl,Below.call hBW hB1 (by omega)⟩
 ·have hgo2:Calls qp 9 #[.agg #[.slice D.ta D.ts.length D.tc,.slice D.ga D.gs.length D.gc,.slice D.oa D.os.length D.oc,.slice D.ha D.hs.length D.hc,.slice D.ca D.cs.length D.cc],.int .i64 call] W fun e w'=>e=.returned (.tuple #[.slice none 0 0,.int .i64 r])/\Below W.heap.size W w':=hgo.mono fun e w' hh=>by
   rcases hh with⟨hB,hh|hh⟩
   ·exact⟨hh.2,hB⟩
   ·exact absurd hh.1 ha
  rw[if_pos ha];have hb:(r != 0)=true:=by simpa using ha
  clear hgo hpos ha;go_enter (sf 12 f12),ntmps12;go_upto_region 1 with fail;try rw[hW]
  clear hW;go_wp2_with (go_at_call 9;(with_reducible refine hgo2.mono ?_);rintro e w1 ⟨rfl,hB1⟩;have hs1:=hB1.size)
  go_ret2
  exact⟨rfl,Below.call hBW hB1 (by omega)⟩
def qC(l:List Int):PastM:=⟨l.getD 0 0,l.getD 1 0,l.getD 2 0,l.getD 3 0⟩
theorem yB(l:List Int){j:Nat}(hj:j<4):(qC l).get j=l.getD j 0:=by
 match j,hj with
 | 0,_=>rfl
 | 1,_=>rfl
 | 2,_=>rfl
 | 3,_=>rfl
theorem qfy{q:PastM}{l:List Int}(h:∀j,j<4->q.get j=l.getD j 0):q=qC l:=PastM.same fun j hj=>(h j hj).trans (yB l hj).symm
theorem qfz{l:List Int}(h:l.all (fun n=>btw n 0 9)=true):(qC l).ok:=by
 rw[List.all_eq_true]at h
 have hx:∀j,0<=l.getD j 0/\l.getD j 0<=100:=fun j=>by
  rw[List.getD_eq_getElem?_getD]
  cases e:l[j]? with
  | none=>exact⟨Int.le_refl _,(by decide:(0:Int)<=100)⟩
  | some x =>
    have:=zS.1 (h x (qI e));simp only[Option.getD_some];omega
 intro g;by_cases hg:g<4
 ·rw[yB l hg];exact hx g
 ·rw[PastM.get_big _ (by omega),yB l (by omega)];exact hx 3
def jv(D:DayM)(l:List Int):Int:=if checkN D≠0 then checkN D else if l.length≠D.gs.length then 2 else if l.all (fun n=>btw n 0 9)=false then 1 else 0
def PlayP(D:DayM)(l:List Int)(w:World)(e:Ending)(w':World):Prop :=
 Below w.heap.size w w'/\((jv D l≠0/\e=.returned (.tuple #[.slice none 0 0,.int .i64 (jv D l)])) \/
 (jv D l=0/\∃a c,e=.returned (.tuple #[.slice a (qD D (setOf (qC l))).length c,.int .i64 0])/\(qD D (setOf (qC l))).length<=c/\qi w' 1 encI a (qD D (setOf (qC l)))))
def qdT(D:DayM)(l:List Int)(w:World)(e:Ending)(w':World):Prop :=
 Below w.heap.size w w'/\((jv D l≠0/\e=.returned (.tuple #[.slice none 0 0,.int .i64 (jv D l)])) \/
 (jv D l=0/\∃a c,e=.returned (.tuple #[.slice a (qD D (setOf (qC l))).length c,.int .i64 0])/\(qD D (setOf (qC l))).length<=c/\yo w.heap.size w' 1 encI a (qD D (setOf (qC l)))))
structure PB (W:World) (b:Nat) (q:PastM):Prop where
 c:∀i,i<4->W.cell? ⟨b,i,none⟩=some (.int .i64 (q.get i))
 f:∀i,i<4->W.frozen? ⟨b,i,none⟩=false
theorem PB.put{W:World}{b:Nat}{q:PastM}(h:PB W b q){i:Nat}(hi:i<4)(n:Int):PB (W.setCell ⟨b,i,none⟩ (.int .i64 n)) b (q.set i n):=by
 refine⟨fun j hj=>?_,fun j hj=>by simpa using h.f j hj⟩;by_cases e:j=i
 ·subst e;rw[PastM.get_set _ hi];exact qA (qL (h.c j hj))
 ·rw[PastM.get_set_ne _ hi hj e];exact qj (h.c j hj) (.inr e)
theorem PB.of{W:World}{b:Nat}{q:PastM}(c0:W.cell? ⟨b,0,none⟩=some (.int .i64 q.a))(c1:W.cell? ⟨b,1,none⟩=some (.int .i64 q.b))(c2:W.cell? ⟨b,2,none⟩=some (.int .i64 q.c))(c3:W.cell? ⟨b,3,none⟩=some (.int .i64 q.d))
 (f0:W.frozen? ⟨b,0,none⟩=false) (f1:W.frozen? ⟨b,1,none⟩=false) (f2:W.frozen? ⟨b,2,none⟩=false) (f3:W.frozen? ⟨b,3,none⟩=false):PB W b q :=
 ⟨fun i hi=>match i,hi with
   | 0,_=>c0
   | 1,_=>c1
   | 2,_=>c2
   | 3,_=>c3,fun i hi=>match i,hi with
   | 0,_=>f0
   | 1,_=>f1
   | 2,_=>f2
   | 3,_=>f3⟩
theorem PB.keep{W W1:World}{b:Nat}{q:PastM}(h:PB W b q)(hB:Below W.heap.size W W1):PB W1 b q:=⟨fun i hi=>qb _ hB (h.c i hi),fun i hi=>qf _ hB (h.c i hi) (h.f i hi)⟩
theorem PB.mod{S:Nat->Prop}{W W1:World}{b:Nat}{q:PastM}(h:PB W b q)(hm:Mod S W W1)(hb:¬S b):PB W1 b q:=⟨fun i hi=>hm.cell (h.c i hi) hb,fun i hi=>(hm.frozen (h.c i hi) hb).trans (h.f i hi)⟩
theorem PB.four{W:World}{b:Nat}{q:PastM}(h:PB W b q):W.cell? ⟨b,0,none⟩=some (.int .i64 q.a)/\W.cell? ⟨b,1,none⟩=some (.int .i64 q.b)/\W.cell? ⟨b,2,none⟩=some (.int .i64 q.c)/\W.cell? ⟨b,3,none⟩=some (.int .i64 q.d):=⟨h.c 0 (by omega),h.c 1 (by omega),h.c 2 (by omega),h.c 3 (by omega)⟩
theorem PB.lt{W:World}{b:Nat}{q:PastM}(h:PB W b q):b<W.heap.size:=lt_of_cell (h.c 0 (by omega))
theorem Mod.keep{S:Nat->Prop}{w w1:World}{B:Nat}(h:Mod S w w1)(hB:B<=w.heap.size)(hs:∀b,S b->B<=b):Below B w w1:=⟨h.os,h.tape,h.output,h.size,fun k hk=>h.block k (by omega) (fun e=>by have:=hs k e;omega)⟩
theorem qct(D:DayM)(w:World)(h:DayAt w D)(hs:DaySm D)(hG:Globs w)(l:List Int)(a:Option Addr)(c:Nat)(hll:l.length<=20)(hlc:l.length<=c)(hr:qi w 1 encI a l):Calls qp 23 #[dv D,.slice a l.length c] w (qdT D l w):=by
 obtain⟨W,hW⟩:∃W,w.alloc (Obj.cells #[.slice D.ta D.ts.length D.tc,.slice D.ga D.gs.length D.gc,.slice D.oa D.os.length D.oc,.slice D.ha D.hs.length D.hc,.slice D.ca D.cs.length D.cc] 28)=W:=⟨_,rfl⟩;have hBW:Below w.heap.size w W:=by subst hW;go_grown
 have hsW:W.heap.size=w.heap.size+1:=by subst hW;simp
 have k0:W.cell? ⟨w.heap.size,0,none⟩=some (.slice D.ta D.ts.length D.tc):=by subst hW;go_cell
 have k1:W.cell? ⟨w.heap.size,1,none⟩=some (.slice D.ga D.gs.length D.gc):=by subst hW;go_cell
 have k2:W.cell? ⟨w.heap.size,2,none⟩=some (.slice D.oa D.os.length D.oc):=by subst hW;go_cell
 have k3:W.cell? ⟨w.heap.size,3,none⟩=some (.slice D.ha D.hs.length D.hc):=by subst hW;go_cell
 have k4:W.cell? ⟨w.heap.size,4,none⟩=some (.slice D.ca D.cs.length D.cc):=by subst hW;go_cell
 have hd:=h.keep hBW;have hop:=fun hz=>Jw D W hd hs (hG.keep hBW) hz;have hopb:=fun hz=>Jv D W hd hs (hG.keep hBW) hz;have hdv:dv D=.agg #[.slice D.ta D.ts.length D.tc,.slice D.ga D.gs.length D.gc,.slice D.oa D.os.length D.oc,.slice D.ha D.hs.length D.hc,.slice D.ca D.cs.length D.cc]:=rfl;rw[hdv]at hop hopb⊢;have HD:=qd (qg hd (qg hs (hr.keep hBW)));clear h hs hG hdv hd hr;have hgl:D.gs.length<=20:=HD.out.2.1.gs.1;by_cases hz:checkN D=0
 ·have hopx:=hop hz;have HZ:=qd hz;clear hop hopb hz;unfold dm at hopx;by_cases hlg:l.length=D.gs.length
  ·have hg4:=(qY D HZ.out).gs;have hbb:((l.length:Int) != (D.gs.length:Int))=false:=(by rw[hlg];simp);have HLG:=qd hlg;have hl4:l.length<=4:=(by omega);clear hlg;go_enter (sf 23 f23),ntmps23;go_upto_region 1 with fail;(try rw[hW]);clear hW;go_upto_region 7 with(go_at_call 73;(with_reducible refine hopx.mono ?_);rintro e w1 ⟨M,rfl,hM,hg,hB1⟩;have hs1:=hB1.size;have hzz:w.heap.size<w1.heap.size:=(by omega);have q0:=qb _ hB1 k0;have q1:=qb _ hB1 k1;have q2:=qb _ hB1 k2;have q3:=qb _ hB1 k3;have q4:=qb _ hB1 k4);clear q0 q1 q2 q3 q4 k0 k1 k2 k3 k4;have hgl:=hg.lt;obtain⟨V,hV⟩:∃V,(w1.alloc (Obj.cells #[.slice D.ta D.ts.length D.tc,.slice D.ga D.gs.length D.gc,.slice D.oa D.os.length D.oc,.slice D.ha D.hs.length D.hc,.slice D.ca D.cs.length D.cc,.map (some M)] 73)).alloc (Obj.cells #[.int .i64 0,.int .i64 0,.int .i64 0,.int .i64 0] 81)=V:=⟨_,rfl⟩;have hBV:Below w1.heap.size w1 V:=(by subst hV;go_grown);have h7:B6 V w1.heap.size (.slice D.ta D.ts.length D.tc) (.slice D.ga D.gs.length D.gc) (.slice D.oa D.os.length D.oc) (.slice D.ha D.hs.length D.hc) (.slice D.ca D.cs.length D.cc) (.map (some M)):=(by subst hV;exact⟨by go_cell,by go_cell,by go_cell,by go_cell,by go_cell,by go_cell⟩);have hp0:PB V (w1.heap.size+1) ⟨0,0,0,0⟩:=(by subst hV;exact PB.of (by go_cell) (by go_cell) (by go_cell) (by go_cell) (by go_cell) (by go_cell) (by go_cell) (by go_cell));(try rw[hV]);have hst:St D M (fun b=>b=w1.heap.size+1) W V:=St.open HD.out.1 HD.out.2.1 HZ.out (bcl hB1 hBV) hM (hg.keep hBV);have hrV:=HD.out.2.2.keep hst.bel
   have H7:=qd h7;have HST:=qd hst;have HP0:=qd hp0;obtain⟨T,hT⟩:∃T,w1.heap.size=T:=⟨_,rfl⟩;rw[hT]at H7 HP0 hgl hs1 hzz HST⊢;clear hV hBV h7 hp0 hst hopx hg hB1 hT;go_wp2;go_loopw [27] (fun i wr=>∃(k:Nat) (q:PastM),i=.int .i64 k/\k<=l.length/\Hid (PB wr (T+1) q)/\Hid (Mod (fun b=>b=T+1) V wr)/\Hid (∀j,j<4->q.get j=(l.take k).getD j 0)/\Hid ((l.take k).all (fun n=>btw n 0 9)=true)) (fun i _=>l.length-(intOf i).toNat)
   case atStart=>exact⟨0,_,rfl,Nat.zero_le _,HP0,qd (Mod.refl _ _),qd (fun j hj=>by match j,hj with
    | 0,_=>rfl
    | 1,_=>rfl
    | 2,_=>rfl
    | 3,_=>rfl),qd (by simp)⟩
   case round =>
    obtain⟨k,q,rfl,hk,HP,HM,HQ,HA⟩:=hrel;by_cases hlt:k<l.length
    ·obtain⟨b,o,rfl,hP⟩:=HD.out.2.2 (by omega);obtain⟨n,hn⟩:∃n,l[k]? = some n:=⟨l[k],by simp[hlt]⟩;have c0:=hP k n hn 0 _ rfl;have hbl:=lt_of_cell c0;have c0:=HM.out.cell (qb _ HST.out.bel c0) (by simp only at hbl⊢;omega);simp only[Nat.mul_one,Nat.add_zero]at c0;have hk0:(0:Int)<=(k:Int):=Int.natCast_nonneg k;have hk4:(k:Int)<4:=(by omega);have hkc:(k:Int)<=(c:Int):=(by omega);have ci:=HP.out.c k (by omega);have fi:=HP.out.f k (by omega);have HX:=qd hn;have hwi:=zM n 0 9;obtain⟨r,hr⟩:∃r,btw n 0 9=r:=⟨_,rfl⟩;rw[hr]at hwi;have HR:=qd hr;clear hP hn hr hbl
     cases r with
     | true =>
       go_wp2_with (go_at_call 74;(with_reducible refine(hwi _).mono ?_);rintro e w1 ⟨rfl,rfl⟩);go_roundw
       case rel =>
        refine⟨k+1,q.set k n,rfl,by omega,qd (HP.out.put (by omega) n),qd (HM.out.put ⟨T+1,k,none⟩ _ rfl),qd (fun j hj=>?_),qd ?_⟩
        ·have e2:=HX.out;by_cases e:j=k
         ·subst e;rw[PastM.get_set _ hj,List.take_add_one,e2,List.getD_eq_getElem?_getD,List.getElem?_append_right (by rw[List.length_take];omega),List.length_take,Nat.min_eq_left (by omega),Nat.sub_self];rfl
         ·rw[PastM.get_set_ne _ (by omega) hj e,HQ.out j hj,List.getD_eq_getElem?_getD,List.getD_eq_getElem?_getD,List.getElem?_take,List.getElem?_take];by_cases h1:j<k
          ·rw[if_pos h1,if_pos (by omega)]
          ·rw[if_neg h1,if_neg (by omega)]
        ·rw[List.take_add_one,HX.out,List.all_append,HA.out];simpa using HR.out
       case measure=>simp[intOf];omega
     | false =>
       have hA:jv D l=1:=by
        unfold jv
        have hall:l.all (fun n=>btw n 0 9)=false:=by
         rw[List.all_eq_false];exact⟨n,qI HX.out,by rw[HR.out];simp⟩
        rw[if_neg (by simpa using HZ.out),if_neg (by simpa using HLG.out),if_pos hall]
       have HAA:=qd hA;clear hA;go_wp2_with (go_at_call 74;(with_reducible refine(hwi _).mono ?_);rintro e w1 ⟨rfl,rfl⟩)
       go_ret2
       exact⟨Below.call hBW ((HST.out.mod (A':=fun _=>False) HM.out (fun b hb=>⟨hb,by omega,by omega⟩) (fun b hb=>hb.elim)).bel) (by omega),.inl ⟨by rw[HAA.out];decide,by rw[HAA.out];rfl⟩⟩
    ·obtain rfl:k=l.length:=(by omega);have hq:q=qC l:=qfy (fun j hj=>by rw[HQ.out j hj,List.take_length]);have hall:=HA.out;rw[List.take_length]at hall;subst hq
     have hA:jv D l=0:=by
      unfold jv;rw[if_neg (by simpa using HZ.out),if_neg (by simpa using HLG.out),if_neg (by rw[hall];simp)]
     go_wp2;obtain⟨p0,p1,p2,p3⟩:=HP.out.four;have hbT:=HP.out.lt;have hstr:St D M (fun b=>b=T+1) W wr:=HST.out.mod HM.out (fun b hb=>⟨hb,by omega,by omega⟩) (fun b hb=>.inl hb);obtain⟨d0,d1,d2,d3,d4,d5⟩:=H7.out.mod HM.out (show ¬T=T+1 by omega);have hS:RG10 D M (fun b=>b=T+1) W wr ⟨T,0,none⟩ ⟨T,1,none⟩ ⟨T,2,none⟩ ⟨T,3,none⟩ ⟨T,4,none⟩ ⟨T,5,none⟩ ⟨T+1,0,none⟩ ⟨T+1,1,none⟩ ⟨T+1,2,none⟩ ⟨T+1,3,none⟩ (.slice D.ta D.ts.length D.tc) (.slice D.ga D.gs.length D.gc) (.slice D.oa D.os.length D.oc) (.slice D.ha D.hs.length D.hc) (.slice D.ca D.cs.length D.cc) (.map (some M)) (.int .i64 (qC l).a) (.int .i64 (qC l).b) (.int .i64 (qC l).c) (.int .i64 (qC l).d) wr:=⟨d0,d1,d2,d3,d4,d5,p0,p1,p2,p3,hstr,qo (Below.refl _ _)⟩;have hok:=qfz hall;have hpl:=fun X (hX:St D M (fun b=>b=T+1) W X) (hg:wr.grownBy X (some M))=>QK hX (setOf (qC l)) (by simp[setOf]) hok (by simp[setOf]) (fun b hb=>by have:=hg.size;omega);have hlen:(qD D (setOf (qC l))).length<=20:=(by rw[qH];exact HD.out.2.1.cs.1);have has:=fun X=>zX (qC l) X;obtain⟨sv,hsv⟩:∃sv,zf (setOf (qC l))=sv:=⟨_,rfl⟩;rw[hsv]at has;simp only[hsv]at hpl;unfold dm at hpl;unfold pvP at has;have HPL:=qd hpl;have HAS:=qd has;have HAA:=qd hA;clear hpl has d0 d1 d2 d3 d4 d5 p0 p1 p2 p3 hA hall hstr hok hrV;refine wp_region_held_drew (S:=(RG10 D M (fun b=>b=T+1) W wr ⟨T,0,none⟩ ⟨T,1,none⟩ ⟨T,2,none⟩ ⟨T,3,none⟩ ⟨T,4,none⟩ ⟨T,5,none⟩ ⟨T+1,0,none⟩ ⟨T+1,1,none⟩ ⟨T+1,2,none⟩ ⟨T+1,3,none⟩ (.slice D.ta D.ts.length D.tc) (.slice D.ga D.gs.length D.gc) (.slice D.oa D.os.length D.oc) (.slice D.ha D.hs.length D.hc) (.slice D.ca D.cs.length D.cc) (.map (some M)) (.int .i64 (qC l).a) (.int .i64 (qC l).b) (.int .i64 (qC l).c) (.int .i64 (qC l).d))) (by kernel_rfl) (by exact RGL.drew hS) (fun hHeld=>?_)
     refine tk 0 ?_;(refine tk 1 ?_;try simp only[zs,Act.put]);refine tkR 2 fun K hK=>?_;go_simp;go_wp2_with (go_at_call 48;(with_reducible refine(HAS.out _).mono ?_);rintro e wa ⟨rfl,hB1⟩);refine hK.out _ _ (by exact RGL.call hHeld hB1) (fun hHeldN=>?_);clear hK K hHeld;have hHeld:=hHeldN;clear hHeldN;(try simp only[zs,Act.put]);refine tkR 3 fun K hK=>?_;go_simp;go_wp2_with (go_at_call 47;(with_reducible refine(HPL.out _ (RGL.st hHeld) (RGL.gr hHeld)).mono ?_);rintro e wb ⟨a2,c2,rfl,hlc2,hrow,hst1,hg1⟩);refine hK.out _ _ (by exact RGL.play hHeld hst1 hg1) (fun hHeldN=>?_);clear hK K hHeld;have hHeld:=hHeldN;clear hHeldN;(try simp only[zs,Act.put]);have hwbs:w.heap.size<=wb.heap.size:=by have:=hst1.bel.size;omega
     have hcl:=Je (qD D (setOf (qC l))) a2 c2 (Nat.le_trans hlen (by omega)) (fun e=>by
      subst e;by_cases h0:(qD D (setOf (qC l))).length=0
      ·exact h0
      ·exfalso;obtain⟨b9,o9,e9,-⟩:=hrow (by omega)
       cases e9) wb hrow
     unfold ZQ at hcl;refine tkR 4 fun K hK=>?_;go_simp;go_wp2_with (go_at_call 75;(with_reducible refine hcl.mono ?_);rintro e wc ⟨a3,c3,rfl,hlc3,how3,hnn3,hB4⟩);refine hK.out _ _ (by exact RGL.call hHeld hB4) (fun hHeldN=>?_);clear hK K hHeld;have hHeld:=hHeldN;clear hHeldN;(try simp only[zs,Act.put]);refine tk 5 ?_;(refine tk 6 ?_;try simp only[zs,Act.put]);refine wpAnyH_done (by kernel_rfl) ?_ _;(try simp only[zs,Act.put]);have hst5:=RGL.st hHeld;go_wp2
     go_ret2
     exact⟨Below.call hBW hst5.bel (by omega),.inr ⟨HAA.out,a3,c3,rfl,hlc3,⟨fun p hp=>by have:=how3.1 p hp;omega,how3.2⟩⟩⟩
  ·have hA:jv D l=2:=(by unfold jv;rw[if_neg (by simpa using HZ.out),if_pos hlg]);have hbb:((l.length:Int) != (D.gs.length:Int))=true:=(by simp;omega);have hN:=qd hlg;clear hlg;go_enter (sf 23 f23),ntmps23;go_upto_region 1 with fail;(try rw[hW]);clear hW;go_wp2_with (go_at_call 73;(with_reducible refine hopx.mono ?_);rintro e w1 ⟨M,rfl,hM,hg,hB1⟩;have hs1:=hB1.size;have hzz:w.heap.size<w1.heap.size:=(by omega);have q0:=qb _ hB1 k0;have q1:=qb _ hB1 k1;have q2:=qb _ hB1 k2;have q3:=qb _ hB1 k3;have q4:=qb _ hB1 k4)
   go_ret2
   exact⟨Below.call hBW (by go_grown) (by omega),.inl ⟨by rw[hA];decide,by rw[hA];rfl⟩⟩
 ·have hopx:=hopb hz;have hA:jv D l=checkN D:=by unfold jv;rw[if_pos hz]
  have hb:(checkN D != 0)=true:=by simpa using hz
  have HZ:=qd hz;unfold dz at hopx;unfold qdT;rw[hA];clear hop hopb hz hA
  generalize checkN D=r at *
  go_enter (sf 23 f23),ntmps23;go_upto_region 1 with fail;try rw[hW]
  clear hW;go_wp2_with (go_at_call 73;(with_reducible refine hopx.mono ?_);rintro e w1 ⟨rfl,hB1⟩;have hs1:=hB1.size)
  go_ret2
  exact⟨Below.call hBW (by go_grown) (by omega),.inl ⟨HZ.out,rfl⟩⟩
theorem play_top(D:DayM)(w:World)(h:DayAt w D)(hs:DaySm D)(hG:Globs w)(l:List Int)(a:Option Addr)(c:Nat)(hll:l.length<=20)(hlc:l.length<=c)(hr:qi w 1 encI a l):Calls qp 23 #[dv D,.slice a l.length c] w (PlayP D l w) :=
 (qct D w h hs hG l a c hll hlc hr).mono fun e w' hp=>⟨hp.1,hp.2.elim .inl fun⟨h0,a,c,he,hc,hr⟩=>.inr ⟨h0,a,c,he,hc,hr.rows⟩⟩
end Go.Proofs.Tryz
