/-
  Lemmas about the program and the machine (Q40 to D5), upon which the last text of this claim rests; no condition.
-/
import Derived.Test.YtjkbbnphdbgjiaaGreatDoorEz10
import Derived.Test.YtjkbbnphdbgjiaaGreatDoorE08
set_option linter.unusedSimpArgs false
set_option linter.unusedVariables false
set_option maxRecDepth 100000
set_option maxHeartbeats 4000000
namespace Go.Proofs.Tryz
open Go Go.Load Go.LoadR Go.RowKit
def xS:Nat->Nat->Int->PastM->List PastM
 | 0,_,left,p=>if 0<left then[]else[p]
 | m+1,i,left,p=>(Qw 0 left).flatMap fun v=>xS m (i+1) (left-v) (p.set i v)
def qbx(m i:Nat)(p:PastM)(v left:Int):List PastM:=(Qw v left).flatMap fun v=>xS m (i+1) (left-v) (p.set i v)
theorem qdB{m i:Nat}{p:PastM}{v left:Int}(h:v<=left):qbx m i p v left=xS m (i+1) (left-v) (p.set i v)++qbx m i p (v+1) left:=by
 unfold qbx;rw[Xz h,List.flatMap_cons]
theorem qfF{m i:Nat}{p:PastM}{v left:Int}(h:left<v):qbx m i p v left=[]:=by
 unfold qbx;rw[JJ h];rfl
theorem PastM.set_set(p:PastM){i:Nat}(hi:i<4)(u v:Int):(p.set i u).set i v=p.set i v:=PastM.same fun j hj=>by
 by_cases e:j=i
 ·subst e;rw[PastM.get_set _ hj,PastM.get_set _ hj]
 ·rw[PastM.get_set_ne _ hi hj e,PastM.get_set_ne _ hi hj e,PastM.get_set_ne _ hi hj e]
theorem PastM.set_zero(p:PastM){i:Nat}(hi:i<4)(h:p.get i=0):p.set i 0=p:=PastM.same fun j hj=>by
 by_cases e:j=i
 ·subst e;rw[PastM.get_set _ hj,h]
 ·rw[PastM.get_set_ne _ hi hj e]
structure MB (r s l n:Nat) (W:World) (q:PastM):Prop where
 nc:W.cell? ⟨r,0,none⟩=some (.int .i64 n)
 y:W.cell? ⟨s,0,none⟩=some (.func (.yield l) #[] #[])
 x:W.cell? ⟨s+2,0,none⟩=some (.func (.func 122) #[] #[pt r,pt s,pt (s+1),pt (s+2)])
 c:∀i,i<4->W.cell? ⟨s+1,i,none⟩=some (.int .i64 (q.get i))
 f:∀i,i<4->W.frozen? ⟨s+1,i,none⟩=false
section
variable {r s l n:Nat} {W W1:World} {q:PastM}
theorem MB.mod{S:Nat->Prop}(h:MB r s l n W q)(hm:Mod S W W1)(hr:¬S r)(hs:∀b,s<=b->b<s+3->¬S b):MB r s l n W1 q :=
 ⟨hm.cell h.nc hr,hm.cell h.y (hs _ (by simp) (by simp)),hm.cell h.x (hs _ (by simp) (by simp)),fun i hi=>hm.cell (h.c i hi) (hs _ (by simp) (by simp)),fun i hi=>(hm.frozen (h.c i hi) (hs _ (by simp) (by simp))).trans (h.f i hi)⟩
theorem MB.keep(h:MB r s l n W q)(hB:Below W.heap.size W W1):MB r s l n W1 q:=h.mod (S:=fun _=>False) (Mod.below hB) (fun e=>e) (fun _ _ _ e=>e)
theorem MB.put(h:MB r s l n W q)(hr:r<s){i:Nat}(hi:i<4)(v:Int):MB r s l n (W.setCell ⟨s+1,i,none⟩ (.int .i64 v)) (q.set i v):=by
 refine⟨qj h.nc (.inl (by simp only;omega)),qj h.y (.inl (by simp)),qj h.x (.inl (by simp)),?_,?_⟩
 ·intro j hj;by_cases e:j=i
  ·subst e;rw[PastM.get_set _ hi];exact qA (qL (h.c j hj))
  ·rw[PastM.get_set_ne _ hi hj e];exact qj (h.c j hj) (.inr e)
 ·intro j hj;simpa using h.f j hj
end
def NextP(r s l n:Nat)(J:World->Prop)(Jx:PastM->World->Prop)(p:PastM):Option PastM->Ending->World->Prop
 | none,e,W=>e=.returned (.bool true)/\J W/\MB r s l n W p
 | some q,e,W=>e=.returned (.bool false)/\Jx q W
theorem wrap_up9{i:Int}(h0:0<=i)(h4:i<=5):IntKind.i64.wrap (i+1)=i+1:=by rw[IntKind.wrap_i64];omega
theorem wrap_dn9{a b:Int}(h:0<=a/\a<=3)(k:0<=b/\b<=3):IntKind.i64.wrap (a-b)=a-b:=by rw[IntKind.wrap_i64];omega
theorem qgh{a b:Int}(h:0<=a/\a<=3)(k:0<=b/\b<=3):wrap64 (a-b)=a-b:=by unfold wrap64;omega
theorem qaP{a:Int}(h:0<=a/\a<=5):wrap64 (a+1)=a+1:=by unfold wrap64;omega
theorem qfk{r s l n:Nat}{good:PastM->Bool}{J:World->Prop}{Jx:PastM->World->Prop}(hn:n<=4)(hrs:r<s)
 (jk:∀W W1,J W->Below W.heap.size W W1->J W1)
 (jp:∀W i v,J W->s+3<=W.heap.size->J (W.setCell ⟨s+1,i,none⟩ (.int .i64 v)))
 (jy:∀W q,J W->MB r s l n W q->q.le 3->YieldAt Fence.wide 1 qp l #[pvP q] W fun e W'=>NextP r s l n J Jx q (if good q then some q else none) e W') :
 ∀m i,i+m=n->∀W p left,0<=left->left<=3->J W->MB r s l n W p->(∀j,i<=j->j<4->p.get j=0)->p.le 3 ->
  Calls qp 122 #[.int .i64 i,.int .i64 left,pt r,pt s,pt (s+1),pt (s+2)] W (NextP r s l n J Jx p ((xS m i left p).find? good)):=by
 intro m
 induction m with
 | zero =>
   intro i hi W p left hl0 hl3 hJ hM hz hp;obtain rfl:i=n:=(by omega);unfold xS;by_cases hlt:0<left
   ·rw[if_pos hlt,List.find?_nil];have HF:=qd (qg hJ hM);obtain⟨k0,-,-,-,-⟩:=hM;clear hJ jk jp jy hz hp;go_enter (sf 122 f122),ntmps122;go_wp2;go_ret;exact⟨rfl,HF.out.1,HF.out.2⟩
   ·obtain⟨O,hO⟩:∃O,(if good p then some p else none)=O:=⟨_,rfl⟩;have hO2:[p].find? good=O:=(by rw[<-hO,List.find?_cons];cases good p<;>rfl);rw[if_neg hlt,hO2];obtain rfl:left=0:=(by omega);have hy:=jy W p hJ hM hp;rw[hO]at hy;clear hO hO2;obtain⟨fn,tmps,assign,body,hy,hR⟩:=hy;obtain⟨k0,y,-,c,-⟩:=hM;have c0:=c 0 (by omega);have c1:=c 1 (by omega);have c2:=c 2 (by omega);have c3:=c 3 (by omega);simp only[PastM.get]at c0 c1 c2 c3;unfold pvP at hy;clear jy jk jp c hz hp hJ;have HR:=qd hR;clear hR;go_enter (sf 122 f122),ntmps122;refine(wpIn_wide (n:=2)).1 ?_
    gi_wp2
    refine HR.out.mono ?_;intro e w2 h2
    cases O with
    | some q =>
      obtain⟨rfl,h2⟩:=h2
      gi_wp2
      go_wp2;go_ret;exact⟨rfl,h2⟩
    | none =>
      obtain⟨rfl,h2,h3⟩:=h2
      gi_wp2
      go_wp2;go_ret;exact⟨rfl,h2,h3⟩
 | succ m ih =>
   intro i hi W p left hl0 hl3 hJ hM hz hp;have hi4:i<4:=(by omega);have hne:((i:Int)==(n:Int))=false:=(by simp;omega);have hi0:(0:Int)<=(i:Int):=Int.natCast_nonneg i;have hi1:(i:Int)<4:=(by omega);have hw:wrap64 ((i:Int)+1)=(i:Int)+1:=(by unfold wrap64;omega);have hw2:IntKind.i64.wrap ((i:Int)+1)=(i:Int)+1:=wrap_up9 hi0 (by omega);have hpz:p.set i 0=p:=PastM.set_zero p hi4 (hz i ql hi4);have HIH:=qd (fun W p left h1 h2 h3 h4 h5 h6=>ih (i+1) (by omega) W p left h1 h2 h3 h4 h5 h6);have HK:=qd (qg jk jp);have HZ:=qd (qg hz (qg hp hpz));have HJ:=qd hJ;have HM:=qd hM;obtain⟨k0,y,x,c,f⟩:=hM;have ci:=c i hi4;have fi:=f i hi4;have hml:=lt_of_cell x;obtain⟨R,hR⟩:∃R,(xS (m+1) i left p).find? good=R:=⟨_,rfl⟩;have HRR:Hid (R=(qbx m i p 0 left).find? good):=qd hR.symm;rw[hR];simp only at hml;clear ih jk jp jy hz hp hpz hJ c f hR y x;go_enter (sf 122 f122),ntmps122;go_wp2;clear ci fi;go_loopw [8] (fun i0 wr=>∃(v:Int),i0=.bool false/\0<=v/\v<=left+1/\Hid (MB r s l n wr (p.set i v))/\Hid (J wr)/\Hid (R=(qbx m i p v left).find? good)) (fun _ wr=>(left+1-cI wr ⟨s+1,i,none⟩).toNat);case atStart=>exact⟨0,rfl,by omega,by omega,qd (HM.out.put hrs hi4 0),qd (HK.out.2 _ _ _ HJ.out (by omega)),HRR⟩
   case round =>
    clear k0 HM HJ HRR hml;obtain⟨v,rfl,hv0,hv1,HM,HJ,HRR⟩:=hrel;obtain⟨k0,y,x,c,f⟩:=id HM.out;have ci:=c i hi4;have fi:=f i hi4;rw[PastM.get_set _ hi4]at ci;have hm:cI wr ⟨s+1,i,none⟩=v:=cI_of ci;have hml:=lt_of_cell x;simp only at hml;clear c f y;by_cases hle:v<=left
    ·have hwn:wrap64 (v+1)=v+1:=qaP ⟨hv0,by omega⟩;have hws:wrap64 (left-v)=left-v:=qgh ⟨hl0,hl3⟩ ⟨hv0,by omega⟩;have hws2:IntKind.i64.wrap (left-v)=left-v:=wrap_dn9 ⟨hl0,hl3⟩ ⟨hv0,by omega⟩;have hcl:=fun X (hX:Below wr.heap.size wr X)=>HIH.out X (p.set i v) (left-v) (by omega) (by omega) (HK.out.1 _ _ HJ.out hX) (HM.out.keep hX) (fun j h1 h2=>by rw[PastM.get_set_ne _ hi4 h2 (by omega)];exact HZ.out.1 j (by omega) h2) (PastM.le_set HZ.out.2.1 hi4 ⟨hv0,by omega⟩);rw[show((i+1:Nat):Int)=(i:Int)+1 from rfl]at hcl;rw[qdB hle,List.find?_append]at HRR
     cases hf:(xS m (i+1) (left-v) (p.set i v)).find? good with
     | some q =>
       rw[hf]at hcl HRR;have HR:=HRR.out;rw[Option.some_or]at HR;subst HR;clear HRR;go_upto_region 6 with(fail);go_region_with (go_at_call 122;(with_reducible refine(hcl _ (by go_grown)).mono ?_);rintro e w1 ⟨rfl,hJ1⟩)
       all_goals
        go_wp2;go_ret;exact⟨rfl,hJ1⟩
     | none =>
       rw[hf]at hcl HRR;have HR:=HRR.out;rw[Option.none_or]at HR;have HRR:=qd HR;clear HR;go_upto_region 6 with(fail);go_region_with (go_at_call 122;(with_reducible refine(hcl _ (by go_grown)).mono ?_);rintro e w1 ⟨rfl,hJ1,hN1⟩;have c1:=hN1.c i hi4;have f1:=hN1.f i hi4;rw[PastM.get_set _ hi4]at c1;have HJ1:=qd hJ1;have HN1:=qd hN1;clear hJ1 hN1)
       all_goals
        go_wp2;go_roundw
        case rel =>
         refine⟨v+1,rfl,by omega,by omega,qd ?_,qd (HK.out.2 _ _ _ HJ1.out (by have:=lt_of_cell HN1.out.x;simp only at this;omega)),HRR⟩;have h:=HN1.out.put hrs hi4 (v+1);rwa[PastM.set_set _ hi4]at h
        case measure=>rw[cI_of (qA (qL c1)),hm];omega
    ·have hq0:v=left+1:=(by omega);have HR:=HRR.out;rw[qfF (by omega),List.find?_nil]at HR;have hfin:=HM.out.put hrs hi4 0;rw[PastM.set_set _ hi4,HZ.out.2.2]at hfin;have HF:=qd (qg hfin (HK.out.2 wr i 0 HJ.out hml));clear hfin;subst HR;go_wp2;go_ret;exact⟨rfl,HF.out.2,HF.out.1⟩
theorem MB.of{r s l n:Nat}{W:World}(nc:W.cell? ⟨r,0,none⟩=some (.int .i64 n))(y:W.cell? ⟨s,0,none⟩=some (.func (.yield l) #[] #[]))(x:W.cell? ⟨s+2,0,none⟩=some (.func (.func 122) #[] #[pt r,pt s,pt (s+1),pt (s+2)]))
 (c0:W.cell? ⟨s+1,0,none⟩=some (.int .i64 0)) (c1:W.cell? ⟨s+1,1,none⟩=some (.int .i64 0)) (c2:W.cell? ⟨s+1,2,none⟩=some (.int .i64 0)) (c3:W.cell? ⟨s+1,3,none⟩=some (.int .i64 0))
 (f0:W.frozen? ⟨s+1,0,none⟩=false) (f1:W.frozen? ⟨s+1,1,none⟩=false) (f2:W.frozen? ⟨s+1,2,none⟩=false) (f3:W.frozen? ⟨s+1,3,none⟩=false):MB r s l n W yA :=
 ⟨nc,y,x,fun i hi=>match i,hi with
   | 0,_=>c0
   | 1,_=>c1
   | 2,_=>c2
   | 3,_=>c3,fun i hi=>match i,hi with
   | 0,_=>f0
   | 1,_=>f1
   | 2,_=>f2
   | 3,_=>f3⟩
def MoreP(J:World->Prop)(Jx:PastM->World->Prop):Option PastM->Ending->World->Prop
 | none,e,W=>(∃v,e=.returned v)/\J W
 | some q,e,W=>(∃v,e=.returned v)/\Jx q W
theorem qgj(g:Nat):yA.get g=0:=match g with
 | 0=>rfl
 | 1=>rfl
 | 2=>rfl
 | _+3=>rfl
theorem qdm{r l n:Nat}{left:Int}{good:PastM->Bool}{J:World->Prop}{Jx:PastM->World->Prop}(w:World)(s:Nat)(hs:w.heap.size=s)(hn:n<=4)(hl0:0<=left)(hl3:left<=3)
 (hc:w.cell? ⟨r,0,none⟩=some (.int .i64 n)) (hc2:w.cell? ⟨r+1,0,none⟩=some (.int .i64 left))
 (jk:∀W W1,J W->Below W.heap.size W W1->J W1)
 (jp:∀W i v,J W->s+3<=W.heap.size->J (W.setCell ⟨s+1,i,none⟩ (.int .i64 v)))
 (jy:∀W q,J W->MB r s l n W q->q.le 3->YieldAt Fence.wide 1 qp l #[pvP q] W fun e W'=>NextP r s l n J Jx q (if good q then some q else none) e W')
 (h0:J w) :
 Calls qp 121 #[.func (.yield l) #[] #[],pt r,pt (r+1)] w (MoreP J Jx ((xS n 0 left yA).find? good)):=by
 subst hs;have hr:=lt_of_cell hc;simp only at hr;have hr2:=lt_of_cell hc2;simp only at hr2;have hnx:=fun W (hJ:J W) (hM:MB r w.heap.size l n W yA)=>qfk hn hr jk jp jy n 0 (by omega) W yA left hl0 hl3 hJ hM (fun j _ _=>qgj j) (Yx (by decide));obtain⟨O,hO⟩:∃O,(xS n 0 left yA).find? good=O:=⟨_,rfl⟩;rw[hO]at hnx⊢;have HK:=qd (fun W hB=>jk w W h0 hB);clear jk jp jy h0 hO;have e0:((0:Nat):Int)=0:=rfl;simp only[e0]at hnx;have HX:=qd hnx;clear hnx
 cases O with
 | none =>
   go_enter (sf 121 f121),ntmps121;go_wp2_with (go_at_call 122;(with_reducible refine(HX.out _ (HK.out _ (by go_grown)) (MB.of (qb _ (by go_grown) hc) (by go_cell) (by go_cell) (by go_cell) (by go_cell) (by go_cell) (by go_cell) (by go_cell) (by go_cell) (by go_cell) (by go_cell))).mono ?_);rintro e w1 ⟨rfl,hJ1,hN1⟩)
   go_end0
   exact⟨⟨_,rfl⟩,hJ1⟩
 | some q =>
   go_enter (sf 121 f121),ntmps121;go_wp2_with (go_at_call 122;(with_reducible refine(HX.out _ (HK.out _ (by go_grown)) (MB.of (qb _ (by go_grown) hc) (by go_cell) (by go_cell) (by go_cell) (by go_cell) (by go_cell) (by go_cell) (by go_cell) (by go_cell) (by go_cell) (by go_cell))).mono ?_);rintro e w1 ⟨rfl,hJ1⟩)
   go_end0
   exact⟨⟨_,rfl⟩,hJ1⟩
theorem qfm(n left:Int)(w:World):Calls qp 95 #[.int .i64 n,.int .i64 left] w fun e w'=>e=.returned (.func (.func 121) #[] #[pt w.heap.size,pt (w.heap.size+1)])/\w'=(w.alloc (Obj.cells #[.int .i64 n] 3)).alloc (Obj.cells #[.int .i64 left] 3):=by
 go_enter (sf 95 f95),ntmps95;go_wp2;go_ret;exact⟨rfl,rfl⟩
end Go.Proofs.Tryz
namespace Go.Proofs.Tryz
open Go Go.Load Go.LoadR Go.RowKit Go.Maps
def jE(l:Nat)(k:Nat):List Int:=((List.range k).filter fun i=>jL (l:Int) i).map fun(i:Nat)=>(i:Int)
def QI(l:Nat):List Int:=jE l 8
theorem YF(l k:Nat):jE l (k+1)=jE l k++(if jL (l:Int) k then[(k:Int)]else[]):=by
 unfold jE;rw[List.range_succ,List.filter_append,List.map_append];congr 1;cases h:jL (l:Int) k<;>simp[h]
theorem XD(l k:Nat):(jE l k).length<=k:=by
 unfold jE;rw[List.length_map];exact Nat.le_trans (List.length_filter_le _ _) (by simp)
theorem qdX{l k j:Nat}(h:(l:Int)/2 ^ k=0)(hj:k<=j):jL (l:Int) j=false:=by
 unfold jL
 have hz:(l:Int)/2 ^ j=0:=by
  obtain⟨d,rfl⟩:=Nat.exists_eq_add_of_le hj;rw[Int.pow_add,<-Int.ediv_ediv_of_nonneg (Int.pow_nonneg (by decide)),h];simp
 rw[hz];decide
theorem qcN{l k:Nat}(h:(l:Int)/2 ^ k=0)(hk:k<=8):jE l k=QI l:=by
 unfold QI;obtain⟨d,hd⟩:=Nat.exists_eq_add_of_le hk
 have key:∀d,jE l (k+d)=jE l k:=by
  intro d
  induction d with
  | zero=>rfl
  | succ d ih=>rw[<-Nat.add_assoc,YF,ih,qdX h (by omega)];simp
 rw[hd,key]
theorem shr_end{l:Nat}(h:l<256):(l:Int)/2 ^ 8=0:=by
 have:(2:Int) ^ 8=256:=by decide
 rw[this];omega
theorem shr_pos{l k:Nat}(h:¬(l:Int)/2 ^ k=0):0<(l:Int)/2 ^ k:=by
 have h0:0<=(l:Int)/2 ^ k:=Int.ediv_nonneg (Int.natCast_nonneg l) (Int.pow_nonneg (by decide));omega
theorem qdi(l:Nat)(hl:l<256)(w:World):Calls qp 119 #[.int .u64 l] w fun e w'=>∃a c,e=.returned (.slice a (QI l).length c)/\(QI l).length<=c/\qi w' 1 encI a (QI l)/\(∀p,a=some p->w.heap.size<=p.block)/\Below w.heap.size w w':=by
 obtain⟨i0,hi,hz0,hz1,hz2⟩:=info_parts xH;have hlz:(0:Int)<=(l:Int)/\(l:Int)<256:=⟨by omega,by omega⟩;have HL:=qd hlz;have HL2:=qd hl;clear hlz hl;go_enter (sf 119 f119),ntmps119;go_wp2;go_loopw [4,3] (fun i u wr=>∃(k:Nat) (q:Value),i=.int .i64 k/\q=u/\k<=8/\Hid (Below w.heap.size w wr)/\Hid (wr.ownsRow w.heap.size 3 1 q (jE l k).length ((jE l k).map (.int .i64)))) (fun i _ _=>9-(intOf i).toNat);case atStart=>exact⟨0,_,rfl,rfl,by omega,qd (Below.refl _ _),qd (World.ownsRow_nil _ _ _ _)⟩
 case round =>
  obtain⟨k,q,rfl,rfl,hk,HB,HO⟩:=hrel;have hk0:(0:Int)<=(k:Int):=Int.natCast_nonneg k;have hmin:min k 64=k:=by omega
  by_cases hz:(l:Int)/2 ^ k=0
  ·have hE:=qcN hz hk;have ho:=HO.out;rw[hE]at ho;obtain⟨a,c,rfl,hlc,hrow⟩:=zz ho;have hfr:∀p,a=some p->w.heap.size<=p.block:=fun p e=>(by subst e;exact(ho.lt p.block rfl).1);have HF:=qd (qg hlc (qg hrow hfr));clear ho hlc hrow hfr hE;go_wp2;go_ret;exact⟨_,_,rfl,HF.out.1,HF.out.2.1,HF.out.2.2,HB.out⟩
  ·have hp:=shr_pos hz
   have hk8:k<8:=by
    by_cases e:k=8
    ·subst e;exact absurd (shr_end HL2.out) hz
    ·omega
   have hbit:=qbU HL.out (k:=k) (by omega);have hbit2:=hbit;rw[Nat.min_eq_left (show k<=64 by omega)]at hbit2;have hwk:wrap64 ((k:Int)+1)=(k:Int)+1:=(by unfold wrap64;omega);have hbl:=XD l k;have hs:=YF l k;have HS:=qd hs;clear hs
   cases hb:jL (l:Int) k with
   | true =>
     rw[hb]at hbit hbit2 HS;obtain⟨L,hL⟩:∃L,jE l k=L:=⟨_,rfl⟩;rw[hL]at HS HO hbl;clear hb hL;go_wp2_with (at_builtin;refine wpList_append_own_at _ rfl (.tmp 16) (.tmp 18) 31 rfl w.heap.size 3 i0 (.int .i64 0) 1 8 ((qF _).trans Tryz.underlying31) hi hz0 hz1 hz2 rfl (by decide) _ _ _ rfl (HO.out.alloc _) ⟨wr.heap.size,0,none⟩ 1 1 [.int .i64 (k:Int)] rfl rfl (cell_one_new _ _ _) (Qh (k:Int)) (by unfold maxLen;omega) (by omega) (by have:=HB.out.size;simp;omega) ?_;intro v1 w3 n1 g1 nil1 at1);have g2:(wr.alloc (.cells #[.int .i64 (k:Int)] 3)).grownBy w3 q.ownBlock:=g1;have hB3:Below w.heap.size w w3:=HB.out.trans (((Mod.below ((Below.refl _ wr).alloc ql _)).trans (Mod.grown (S:=fun b=>q.ownBlock=some b) g2 (fun b e=>e))).keep HB.out.size (fun b hb=>(HO.out.lt b hb).1));go_roundw
     case rel =>
      refine⟨k+1,v1,rfl,rfl,by omega,qd hB3,qd ?_⟩;rw[HS.out];simp only[if_true,List.length_append,List.length_cons,List.length_nil,Nat.zero_add,List.map_append,List.map_cons,List.map_nil];exact n1
     case measure=>simp[intOf];omega
   | false =>
     rw[hb]at hbit hbit2 HS;clear hb;go_wp2;go_roundw
     case rel =>
      refine⟨k+1,q,rfl,rfl,by omega,HB,qd ?_⟩;rw[HS.out];simp only[Bool.false_eq_true,if_false,List.append_nil];exact HO.out
     case measure=>simp[intOf];omega
def qdO(x y:Int):Int:=if x<y then -1 else if y<x then 1 else 0
def cmpL:List Int->List Int->Int
 | [],[]=>0
 | [],_::_=>-1
 | _::_,[]=>1
 | x::xs,y::ys=>if qdO x y=0 then cmpL xs ys else qdO x y
def fewB(a b:List Int):Bool:=if a.length=b.length then decide (cmpL a b<0)else decide (a.length<b.length)
theorem qeM(x:Int)(w:World):Calls qp 151 #[.int .i64 x] w fun e w'=>e=.returned (.bool false)/\w'=w:=by
 have hx:(x != x)=false:=by simp
 go_enter (sf 151 f151),ntmps151;go_wp2;go_ret;exact⟨rfl,rfl⟩
theorem cmp_any(x y:Int)(w:World):Calls qp 145 #[.int .i64 x,.int .i64 y] w fun e w'=>e=.returned (.int .i64 (qdO x y))/\w'=w:=by
 have hn:=fun z W=>qeM z W;have HN:=qd hn;clear hn;by_cases h1:x<y
 ·have hc:qdO x y=-1:=by unfold qdO;rw[if_pos h1]
  rw[hc];clear hc;go_enter (sf 145 f145),ntmps145;go_wp2_with (go_at_call 151;(with_reducible refine(HN.out _ _).mono ?_);rintro e w1 ⟨rfl,rfl⟩);go_ret;exact⟨rfl,rfl⟩
 ·by_cases h2:y<x
  ·have hc:qdO x y=1:=(by unfold qdO;rw[if_neg h1,if_pos h2]);rw[hc];clear hc;have h1:y<=x:=(by omega);go_enter (sf 145 f145),ntmps145;go_wp2_with (go_at_call 151;(with_reducible refine(HN.out _ _).mono ?_);rintro e w1 ⟨rfl,rfl⟩);go_ret;exact⟨rfl,rfl⟩
  ·obtain rfl:x=y:=(by omega);have hc:qdO x x=0:=(by unfold qdO;rw[if_neg h1,if_neg h1]);rw[hc];clear hc h1 h2;go_enter (sf 145 f145),ntmps145;go_wp2_with (go_at_call 151;(with_reducible refine(HN.out _ _).mono ?_);rintro e w1 ⟨rfl,rfl⟩);go_ret;exact⟨rfl,rfl⟩
theorem qeh{l m:List Int}{k:Nat}{x y:Int}(hx:l[k]? = some x)(hy:m[k]? = some y):cmpL (l.drop k) (m.drop k)=if qdO x y=0 then cmpL (l.drop (k+1)) (m.drop (k+1))else qdO x y:=by
 obtain⟨h1,rfl⟩:=qB hx;obtain⟨h2,rfl⟩:=qB hy;rw[List.drop_eq_getElem_cons h1,List.drop_eq_getElem_cons h2,cmpL]
theorem qef{l m:List Int}{k:Nat}(h1:k<l.length)(h2:m.length<=k):cmpL (l.drop k) (m.drop k)=1:=by
 rw[List.drop_eq_getElem_cons h1,List.drop_eq_nil_of_le h2,cmpL]
theorem qcQ{l m:List Int}(h2:l.length<m.length):cmpL (l.drop l.length) (m.drop l.length)=-1:=by
 rw[List.drop_eq_nil_of_le ql,List.drop_eq_getElem_cons h2,cmpL]
theorem qeg{l m:List Int}(h2:m.length<=l.length):cmpL (l.drop l.length) (m.drop l.length)=0:=by
 rw[List.drop_eq_nil_of_le ql,List.drop_eq_nil_of_le h2,cmpL]
theorem qba(l m:List Int)(a b:Option Addr)(c d:Nat)(hll:l.length<=1000)(hml:m.length<=1000)(hlc:l.length<=c)(hmd:m.length<=d)(w:World)(hl:qi w 1 encI a l)(hm:qi w 1 encI b m) :
 Calls qp 133 #[.slice a l.length c,.slice b m.length d] w fun e w'=>e=.returned (.int .i64 (cmpL l m))/\w'=w:=by
 have hn:=fun x y W=>cmp_any x y W;have HN:=qd hn;clear hn;obtain⟨R,hR⟩:∃R,cmpL l m=R:=⟨_,rfl⟩;rw[hR];have HR:Hid (cmpL (l.drop 0) (m.drop 0)=R):=qd hR;have HL:=qd (qg hl hm);clear hR hl hm;go_enter (sf 133 f133),ntmps133;go_wp2;go_loopw [11,5,6,7,8] (fun i x1 x2 x3 x4 wr=>∃(k:Nat) (y1 y2 y3 y4:Value),i=.int .i64 k/\x1=y1/\x2=y2/\x3=y3/\x4=y4/\k<=l.length/\wr=w/\Hid (cmpL (l.drop k) (m.drop k)=R)) (fun i _ _ _ _ _=>l.length-(intOf i).toNat);case atStart=>exact⟨0,_,_,_,_,rfl,rfl,rfl,rfl,rfl,by omega,rfl,HR⟩
 case round =>
  obtain⟨k,y1,y2,y3,y4,rfl,rfl,rfl,rfl,rfl,hk,rfl,HE⟩:=hrel;have hE:=HE.out;by_cases hlt:k<l.length
  ·obtain⟨x,hx⟩:∃x,l[k]? = some x:=⟨l[k],by simp[hlt]⟩;obtain⟨b1,o1,rfl,hP⟩:=HL.out.1 (by omega);have c0:=hP k x hx 0 _ rfl;simp only[Nat.mul_one,Nat.add_zero]at c0;have hkc:(k:Int)<=(c:Int):=(by omega);by_cases hmk:m.length<=k
   ·rw[qef hlt hmk]at hE;subst hE;clear hP hx HE;have hmk2:(m.length:Int)<=(k:Int):=(by omega);go_wp2;go_ret;exact⟨rfl,rfl⟩
   ·obtain⟨y,hy⟩:∃y,m[k]? = some y:=⟨m[k]'(by omega),qM _⟩;obtain⟨b2,o2,rfl,hP2⟩:=HL.out.2 (by omega);have d0:=hP2 k y hy 0 _ rfl;simp only[Nat.mul_one,Nat.add_zero]at d0;have hkd:(k:Int)<=(d:Int):=(by omega);have hkm:(k:Int)<(m.length:Int):=(by omega);have hmk2:¬(m.length:Int)<=(k:Int):=(by omega);rw[qeh hx hy]at hE;clear hP hP2 hx hy HE;obtain⟨v,hv⟩:∃v,qdO x y=v:=⟨_,rfl⟩;have hcm:=HN.out x y;rw[hv]at hE hcm;have HC:=qd hcm;clear hcm hv;by_cases hv0:v=0
    ·subst hv0;rw[if_pos rfl]at hE;have HE:=qd hE;clear hE;go_wp2_with (go_at_call 145;(with_reducible refine(HC.out _).mono ?_);rintro e w1 ⟨rfl,rfl⟩);go_roundw;(case rel=>exact⟨k+1,_,_,_,_,rfl,rfl,rfl,rfl,rfl,by omega,(by first|rfl|trivial),HE⟩);case measure=>simp[intOf];omega
    ·rw[if_neg hv0]at hE;subst hE;go_wp2_with (go_at_call 145;(with_reducible refine(HC.out _).mono ?_);rintro e w1 ⟨rfl,rfl⟩);go_ret;exact⟨rfl,rfl⟩
  ·obtain rfl:k=l.length:=(by omega);by_cases hmk:l.length<m.length
   ·rw[qcQ hmk]at hE;subst hE;clear HE;have hmk2:(l.length:Int)<(m.length:Int):=(by omega);go_wp2;go_ret;exact⟨rfl,rfl⟩
   ·rw[qeg (by omega)]at hE;subst hE;clear HE;have hmk2:(m.length:Int)<=(l.length:Int):=(by omega);have hmk3:¬(l.length:Int)<(m.length:Int):=(by omega);go_wp2;go_ret;exact⟨rfl,rfl⟩
theorem qew(l m:List Int)(a b:Option Addr)(c d:Nat)(hll:l.length<=1000)(hml:m.length<=1000)(hlc:l.length<=c)(hmd:m.length<=d)(w:World)(hl:qi w 1 encI a l)(hm:qi w 1 encI b m) :
 Calls qp 120 #[.slice a l.length c,.slice b m.length d] w fun e w'=>e=.returned (.bool (fewB l m))/\w'=w:=by
 have hcm:=qba l m a b c d hll hml hlc hmd w hl hm;unfold fewB;by_cases he:l.length=m.length
 ·rw[if_pos he];obtain⟨v,hv⟩:∃v,cmpL l m=v:=⟨_,rfl⟩;rw[hv]at hcm⊢;have hne:(((m.length:Nat):Int) != ((m.length:Nat):Int))=false:=by simp
  rw[he]at hcm⊢;clear hl hm hv he;go_enter (sf 120 f120),ntmps120;go_wp2_with (go_at_call 133;(with_reducible refine hcm.mono ?_);rintro e w1 ⟨rfl,rfl⟩);go_ret;exact⟨rfl,rfl⟩
 ·rw[if_neg he];have hne:(((l.length:Nat):Int) != ((m.length:Nat):Int))=true:=by simp;omega
  clear hl hm hcm;by_cases h0:l.length<m.length
  ·have hd:decide (l.length<m.length)=true:=(by simpa using h0);have h2:(l.length:Int)<(m.length:Int):=(by omega);rw[hd];clear hd;go_enter (sf 120 f120),ntmps120;go_wp2;go_ret;exact⟨rfl,rfl⟩
  ·have hd:decide (l.length<m.length)=false:=(by simpa using h0);have h2:(m.length:Int)<=(l.length:Int):=(by omega);have h3:¬(l.length:Int)<(m.length:Int):=(by omega);rw[hd];clear hd;go_enter (sf 120 f120),ntmps120;go_wp2;go_ret;exact⟨rfl,rfl⟩
end Go.Proofs.Tryz
namespace Go.Proofs.Tryz
open Go Go.Load Go.LoadR Go.RowKit
theorem qci{l:List Int}{n:Int}:Jn l n=true↔n∈l.reverse:=by
 unfold Jn;rw[List.any_eq_true,List.mem_reverse];exact⟨fun⟨x,hx,h⟩=>by rw[beq_iff_eq]at h;exact h▸hx,fun h=>⟨n,h,by simp⟩⟩
theorem wrap_small{n:Int}(h1:-1000<=n)(h2:n<=1000):wrap64 n=n:=by unfold wrap64;omega
theorem rway_any(D:DayM)(o:OrdM)(l:List Int)(a:Option Addr)(c:Nat)(w:World)(h:DayAt w D)(hs:DaySm D)(hsmall:∀g∈D.gs,(0<=g.one/\g.one<=100)/\(0<=g.two/\g.two<=100))(hl:l.length<=20/\l.length<=c)(hA:qi w 1 encI a l) :
 Calls qp 110 #[dv D,.int .i64 o.fr,.int .i64 o.toT,.slice a l.length c] w fun e w'=>e=.returned (.int .i64 (qbM D o l))/\Below w.heap.size w w':=by
 obtain⟨i0,hi,hz0,hz1,hz2⟩:=info_parts xH;have hgs:=h.gs;have hsm:=hs.gs;obtain⟨R,hR⟩:∃R,qbM D o l=R:=⟨_,rfl⟩;rw[hR];unfold qbM at hR;unfold dv;clear h hs;obtain⟨ofr,ow,ows,oa2,oc2⟩:=o;have hdr:=fun t ps k x (hx:l[k]? = some x)=>XU D ow t ps hx;have hnl:∀t ps q,q.length=0->Xx D ow t ps q=if t=ow then 0 else 9:=fun t ps q h=>by cases q with|nil=>rfl|cons _ _=>cases h
 generalize Xx D ow=WG at *
 obtain⟨ts,ta,tc,gs,ga,gc,os,oa,oc,hs,ha,hc,cs,ca,cc⟩:=D
 simp only at *
 generalize Value.slice ta ts.length tc=x0;generalize Value.slice oa os.length oc=x2;generalize Value.slice ha hs.length hc=x3;generalize Value.slice ca cs.length cc=x4;have hwi:=Yy l.length 1 3;obtain⟨r,hr⟩:∃r,btw l.length 1 3=r:=⟨_,rfl⟩;rw[hr]at hwi hR
 cases r with
 | false =>
   simp at hR;subst hR;clear hgs hA hdr hnl;go_enter (sf 110 f110),ntmps110;go_wp2_with (go_at_call 21;(with_reducible refine(hwi _).mono ?_);rintro e w1 ⟨rfl,rfl⟩);go_ret;exact⟨rfl,by go_grown⟩
 | true =>
   simp at hR;have hl3:=(zS.1 hr).2;have HR:=qd hR;have HT:=qd hgs;have HA:=qd hA;have HD:=qd hdr;have HN:=qd hnl;have HS:=qd hsmall;clear hR hgs hA hr hdr hnl hsmall;go_enter (sf 110 f110),ntmps110;go_upto_region 3 with(go_at_call 21;(with_reducible refine(hwi _).mono ?_);rintro e w1 ⟨rfl,rfl⟩);obtain⟨W,hW⟩:∃W,w.alloc (Obj.cells #[x0,.slice ga gs.length gc,x2,x3,x4] 28)=W:=⟨_,rfl⟩;have k1:W.cell? ⟨w.heap.size,1,none⟩=some (.slice ga gs.length gc):=(by subst hW;go_cell);have hBW:Below w.heap.size w W:=(by subst hW;go_grown);have hzW:w.heap.size+1<=W.heap.size:=(by subst hW;simp);(try rw[hW]);clear hW;obtain⟨W1,hW1⟩:∃W1,W.alloc (Obj.cells #[.int .i64 ofr] 3)=W1:=⟨_,rfl⟩;have hown:W1.ownsRow W.heap.size 3 1 (.slice (some ⟨W.heap.size,0,none⟩) 1 1) 1 [.int .i64 ofr]:=(by subst hW1;exact⟨by simp,.inr ⟨W.heap.size,1,#[.int .i64 ofr],rfl,ql,heap_alloc_new W _,ql,(by unfold maxLen;omega),rfl,(by first|rfl|simp)⟩⟩);have hB1:Below W.heap.size W W1:=(by subst hW1;go_grown);have k1W:=qd k1;clear k1;have HO0:=qd hown;clear hown;go_upto_region 5 with fail;(try rw[hW1]);clear hW1;go_wp2;go_loopw [11,10,9] (fun i q p wr=>∃(k:Nat) (t:Int) (PS:List Int) (v:Value),i=.int .i64 k/\q=.int .i64 t/\v=p/\k<=l.length/\Hid (PS.length=k+1)/\Hid (Below W.heap.size W wr)/\Hid (wr.ownsRow W.heap.size 3 1 v PS.length (PS.map (.int .i64)))/\Hid (WG t PS.reverse (l.drop k)=R)) (fun i _ _ _=>l.length-(intOf i).toNat);case atStart=>exact⟨0,ofr,[ofr],_,rfl,rfl,rfl,by omega,qd rfl,qd hB1,HO0,HR⟩
   case round =>
    clear HO0 hB1;obtain⟨k,t,PS,v,rfl,rfl,rfl,hk,HPS,HB,HO,HE⟩:=hrel;have k1:=qb _ HB.out k1W.out;have hBw:=bcl hBW HB.out;have hsz:=HB.out.size;by_cases hlt:k<l.length
    ·obtain⟨x,hx⟩:∃x,l[k]? = some x:=⟨l[k],by simp[hlt]⟩;obtain⟨ab,ao,rfl,hP⟩:=HA.out (by omega);have hkc:(k:Int)<=(c:Int):=(by omega);have hki:(k:Int)<(l.length:Int):=(by omega);have c0:=qb _ hBw (hP k x hx 0 _ rfl);simp only[Nat.mul_one,Nat.add_zero]at c0;have hA:=HE.out;rw[HD.out _ _ _ _ hx]at hA;clear hP hx;have hw2:=Zl x gs.length (by omega) (by omega);have hbt:=qd (@zS x 0 ((gs.length:Int)-1))
     generalize btw x 0 ((gs.length:Int)-1)=r1 at *
     cases r1 with
     | false =>
       have HA:=qd hA;clear hA;go_upto_region 8 with fail;refine wp_region_held_drew (S:=(RH2 wr ⟨ab,ao+k,none⟩ ⟨w.heap.size,1,none⟩ (.int .i64 x) (.slice ga gs.length gc))) (by kernel_rfl) (by exact RHL.drew ⟨c0,k1,Below.refl _ _⟩) (fun hHeld=>?_);refine tk 0 ?_;refine tk 1 ?_;refine tk 2 ?_;refine tk 3 ?_;refine tk 4 ?_;refine tk 5 ?_;(refine tk 6 ?_;try simp only[zs,Act.put]);refine tkR 7 fun K hK=>?_;go_simp;go_wp2_with (go_at_call 50;(with_reducible refine(hw2 _).mono ?_);rintro e w2 ⟨rfl,rfl⟩);refine hK.out _ _ (by exact hHeld) (fun hHeldN=>?_);clear hK K hHeld;have hHeld:=hHeldN;clear hHeldN;(try simp only[zs,Act.put]);(refine tk 8 ?_;try simp only[zs,Act.put]);refine wpAnyH_done (by kernel_rfl) ?_ _;(try simp only[zs,Act.put]);have hB4:=RHL.bel hHeld;clear hHeld;go_wp2;go_ret;exact⟨by have e:=HA.out;simp at e;rw[<-e];rfl,bcl hBw hB4⟩
     | true =>
       obtain⟨hx0,hx1⟩:=hbt.out.1 rfl;obtain⟨n,rfl⟩:=Int.eq_ofNat_of_zero_le hx0;have hng:n<gs.length:=(by omega);obtain⟨g,hx⟩:∃x,gs[n]? = some x:=⟨gs[n],by simp[hng]⟩;obtain⟨b,o,rfl,hP⟩:=HT.out (by omega);have d0:=qb _ hBw (hP n g hx 0 _ rfl);have d1:=qb _ hBw (hP n g hx 1 _ rfl);have d2:=qb _ hBw (hP n g hx 2 _ rfl);have d3:=qb _ hBw (hP n g hx 3 _ rfl);simp only[Nat.add_zero]at d0;have hgc:(n:Int)<=(gc:Int):=(by omega);have hgi:(n:Int)<(gs.length:Int):=(by omega);have hgn0:(0:Int)<=(n:Int):=Int.natCast_nonneg n;simp only[Bool.true_eq_false,if_false,Int.toNat_natCast,hx]at hA;have hgb:=HS.out g (qI hx);have HGB:=qd hgb;clear hP hx hbt hgb;obtain⟨g1,g2,glo,ghi⟩:=g
       simp only at *
       have HA0:=qd hA;clear hA;have hS0:RH6 wr ⟨ab,ao+k,none⟩ ⟨w.heap.size,1,none⟩ ⟨b,o+n*4,none⟩ ⟨b,o+n*4+1,none⟩ ⟨b,o+n*4+2,none⟩ ⟨b,o+n*4+3,none⟩ (.int .i64 n) (.slice (some ⟨b,o,none⟩) gs.length gc) (.int .i64 g1) (.int .i64 g2) (.int .i64 glo) (.int .i64 ghi) wr:=⟨c0,k1,d0,d1,d2,d3,Below.refl _ _⟩;go_upto_region 8 with fail;refine wp_region_held_drew (S:=(RH6 wr ⟨ab,ao+k,none⟩ ⟨w.heap.size,1,none⟩ ⟨b,o+n*4,none⟩ ⟨b,o+n*4+1,none⟩ ⟨b,o+n*4+2,none⟩ ⟨b,o+n*4+3,none⟩ (.int .i64 n) (.slice (some ⟨b,o,none⟩) gs.length gc) (.int .i64 g1) (.int .i64 g2) (.int .i64 glo) (.int .i64 ghi))) (by kernel_rfl) (by exact RHL.drew hS0) (fun hHeld=>?_);refine tk 0 ?_;refine tk 1 ?_;refine tk 2 ?_;refine tk 3 ?_;refine tk 4 ?_;refine tk 5 ?_;(refine tk 6 ?_;try simp only[zs,Act.put]);refine tkR 7 fun K hK=>?_;go_simp;go_wp2_with (go_at_call 50;(with_reducible refine(hw2 _).mono ?_);rintro e w2 ⟨rfl,rfl⟩);refine hK.out _ _ (by exact hHeld) (fun hHeldN=>?_);clear hK K hHeld;have hHeld:=hHeldN;clear hHeldN;(try simp only[zs,Act.put]);(refine tk 8 ?_;try simp only[zs,Act.put]);refine wpAnyH_done (by kernel_rfl) ?_ _;(try simp only[zs,Act.put]);clear hHeld;go_upto_region 10 with fail;refine wp_region_held_drew (S:=(RH6 wr ⟨ab,ao+k,none⟩ ⟨w.heap.size,1,none⟩ ⟨b,o+n*4,none⟩ ⟨b,o+n*4+1,none⟩ ⟨b,o+n*4+2,none⟩ ⟨b,o+n*4+3,none⟩ (.int .i64 n) (.slice (some ⟨b,o,none⟩) gs.length gc) (.int .i64 g1) (.int .i64 g2) (.int .i64 glo) (.int .i64 ghi))) (by kernel_rfl) (by exact RHL.drew (RHL.drew hS0)) (fun hHeld=>?_)
       refine tk 0 ?_;refine tk 1 ?_;refine tk 2 ?_;refine tk 3 ?_;refine tk 4 ?_;refine tk 5 ?_;refine tk 6 ?_;(refine tk 7 ?_;try simp only[zs,Act.put]);(refine tkR 8 fun K hK=>?_;go_simp;refine hK.out _ _ (by exact RHL.call hS0 (by go_grown)) (fun hHeldN=>?_);clear hK K hHeld;have hHeld:=hHeldN;clear hHeldN;try simp only[zs,Act.put]);(refine tkR 9 fun K hK=>?_;go_simp;refine hK.out _ _ (by exact RHL.call hS0 (by go_grown)) (fun hHeldN=>?_);clear hK K hHeld;have hHeld:=hHeldN;clear hHeldN;try simp only[zs,Act.put]);refine wpAnyH_done (by kernel_rfl) ?_ _;(try simp only[zs,Act.put]);obtain⟨U,hU⟩:∃U,(wr.alloc (Obj.cells #[.int .i64 g1,.int .i64 g2,.int .i64 glo,.int .i64 ghi] 120)).drew.drew=U:=⟨_,rfl⟩;have hBU:Below wr.heap.size wr U:=(by subst hU;exact(((Below.refl _ wr).alloc ql _).drew).drew);have u0:U.cell? ⟨wr.heap.size,0,none⟩=some (.int .i64 g1):=(by subst hU;go_cell);have u1:U.cell? ⟨wr.heap.size,1,none⟩=some (.int .i64 g2):=(by subst hU;go_cell);have hHU:=(Mod.below (S:=fun _=>False) hBU).owns HO.out (fun _ _ h=>h);obtain⟨pa,pc,rfl,hpc,hprow⟩:=zz hHU;have hpl:PS.length<=100:=(by have:=HPS.out;omega);have HHN:=qd fun n=>xV pa pc PS n hpl hpc U hprow;have HOU:=qd hHU;have HBU:=qd (bcl HB.out hBU);have HBwU:=qd (bcl hBw hBU);have hszU:W.heap.size<=U.heap.size:=HBU.out.size;rw[hU];clear hU hHeld hS0 hHU hprow hBU d0 d1 d2 d3 c0;by_cases e1:t=g1
       ·subst e1;have hnt:QZ ⟨t,g2,glo,ghi⟩ t=some g2:=(by unfold QZ;rw[if_pos rfl]);have hw1:wrap64 (t+g2)=t+g2:=wrap_small (by have:=HGB.out;omega) (by have:=HGB.out;omega);have hw2:wrap64 (t+g2-t)=g2:=(by rw[show t+g2-t=g2 by omega];exact wrap_small (by have:=HGB.out;omega) (by have:=HGB.out;omega));have hw3:wrap64 g2=g2:=wrap_small (by have:=HGB.out;omega) (by have:=HGB.out;omega);have hhn:=HHN.out g2;obtain⟨q,hq⟩:∃q,Jn PS g2=q:=⟨_,rfl⟩;rw[hq]at hhn;have hin:=@qci PS g2;rw[hq]at hin;have hA:=HA0.out;simp only[hnt]at hA;clear hnt hq
        cases q with
        | true =>
          rw[if_pos (hin.1 rfl)]at hA;have HA:=qd hA;clear hA hin;go_wp2_with (go_at_call 35;(with_reducible refine hhn.mono ?_);rintro e w5 ⟨rfl,rfl⟩);go_ret;exact⟨by rw[<-HA.out];rfl,HBwU.out⟩
        | false =>
          rw[if_neg (fun h=>by cases hin.2 h)]at hA;have HA:=qd hA;clear hA hin;go_upto_region 16 with(go_at_call 35;(with_reducible refine hhn.mono ?_);rintro e w5 ⟨rfl,rfl⟩);clear hw1 hw2 hw3 hhn u0 u1;go_wp2_with (at_builtin;refine wpList_append_own_at _ rfl (.tmp 63) (.tmp 65) 31 rfl W.heap.size 3 i0 (.int .i64 0) 1 8 ((qF _).trans Tryz.underlying31) hi hz0 hz1 hz2 rfl (by decide) _ _ _ rfl (HOU.out.alloc _) ⟨U.heap.size,0,none⟩ 1 1 [.int .i64 g2] rfl rfl (cell_one_new _ _ _) (Qh g2) (by unfold maxLen;omega) (by omega) (by simp;omega) ?_;intro v1 w3 n1 y1 nil1 at1);have y2:(U.alloc (.cells #[.int .i64 g2] 3)).grownBy w3 (Value.slice pa PS.length pc).ownBlock:=y1;have hB3:Below W.heap.size W w3:=HBU.out.trans (((Mod.below ((Below.refl _ U).alloc ql _)).trans (Mod.grown (S:=fun b=>(Value.slice pa PS.length pc).ownBlock=some b) y2 (fun b e=>e))).keep hszU (fun b hb=>(HOU.out.lt b hb).1));go_roundw
          case rel =>
           refine⟨k+1,g2,PS++[g2],v1,rfl,rfl,rfl,by omega,qd (by have:=HPS.out;simp;omega),qd hB3,qd ?_,qd ?_⟩
           ·simp only[List.length_append,List.length_cons,List.length_nil,Nat.zero_add,List.map_append,List.map_cons,List.map_nil];exact n1
           ·rw[List.reverse_append];exact HA.out
          case measure=>simp[intOf];omega
       by_cases e2:t=g2
       ·subst e2;have hf:(g1 != t)=true:=(by simpa using fun h=>e1 h.symm);have hnt:QZ ⟨g1,t,glo,ghi⟩ t=some g1:=(by unfold QZ;rw[if_neg e1,if_pos rfl]);have hw1:wrap64 (g1+t)=g1+t:=wrap_small (by have:=HGB.out;omega) (by have:=HGB.out;omega);have hw2:wrap64 (g1+t-t)=g1:=(by rw[show g1+t-t=g1 by omega];exact wrap_small (by have:=HGB.out;omega) (by have:=HGB.out;omega));have hw3:wrap64 g1=g1:=wrap_small (by have:=HGB.out;omega) (by have:=HGB.out;omega);have hhn:=HHN.out g1;obtain⟨q,hq⟩:∃q,Jn PS g1=q:=⟨_,rfl⟩;rw[hq]at hhn;have hin:=@qci PS g1;rw[hq]at hin;have hA:=HA0.out;simp only[hnt]at hA;clear hnt hq
        cases q with
        | true =>
          rw[if_pos (hin.1 rfl)]at hA;have HA:=qd hA;clear hA hin;go_wp2_with (go_at_call 35;(with_reducible refine hhn.mono ?_);rintro e w5 ⟨rfl,rfl⟩);go_ret;exact⟨by rw[<-HA.out];rfl,HBwU.out⟩
        | false =>
          rw[if_neg (fun h=>by cases hin.2 h)]at hA;have HA:=qd hA;clear hA hin;go_upto_region 16 with(go_at_call 35;(with_reducible refine hhn.mono ?_);rintro e w5 ⟨rfl,rfl⟩);clear hw1 hw2 hw3 hhn u0 u1;go_wp2_with (at_builtin;refine wpList_append_own_at _ rfl (.tmp 63) (.tmp 65) 31 rfl W.heap.size 3 i0 (.int .i64 0) 1 8 ((qF _).trans Tryz.underlying31) hi hz0 hz1 hz2 rfl (by decide) _ _ _ rfl (HOU.out.alloc _) ⟨U.heap.size,0,none⟩ 1 1 [.int .i64 g1] rfl rfl (cell_one_new _ _ _) (Qh g1) (by unfold maxLen;omega) (by omega) (by simp;omega) ?_;intro v1 w3 n1 y1 nil1 at1);have y2:(U.alloc (.cells #[.int .i64 g1] 3)).grownBy w3 (Value.slice pa PS.length pc).ownBlock:=y1;have hB3:Below W.heap.size W w3:=HBU.out.trans (((Mod.below ((Below.refl _ U).alloc ql _)).trans (Mod.grown (S:=fun b=>(Value.slice pa PS.length pc).ownBlock=some b) y2 (fun b e=>e))).keep hszU (fun b hb=>(HOU.out.lt b hb).1));go_roundw
          case rel =>
           refine⟨k+1,g1,PS++[g1],v1,rfl,rfl,rfl,by omega,qd (by have:=HPS.out;simp;omega),qd hB3,qd ?_,qd ?_⟩
           ·simp only[List.length_append,List.length_cons,List.length_nil,Nat.zero_add,List.map_append,List.map_cons,List.map_nil];exact n1
           ·rw[List.reverse_append];exact HA.out
          case measure=>simp[intOf];omega
       have hf:(g1 != t)=true:=(by simpa using fun h=>e1 h.symm);have hf2:(g2 != t)=true:=(by simpa using fun h=>e2 h.symm);have hnt:QZ ⟨g1,g2,glo,ghi⟩ t=none:=(by unfold QZ;rw[if_neg e1,if_neg e2]);have hA:=HA0.out;simp only[hnt]at hA;have HA:=qd hA;clear hA hnt;go_wp2;go_ret;exact⟨by rw[<-HA.out];rfl,HBwU.out⟩
    ·obtain rfl:k=l.length:=(by omega);have hA:=HE.out;rw[HN.out _ _ _ (by simp)]at hA;have HA:=qd hA;clear hA;by_cases htw:t=ow
     ·subst htw;go_wp2;go_ret;exact⟨by have e:=HA.out;simp at e;rw[<-e];rfl,hBw⟩
     ·have hne:(t != ow)=true:=(by simpa using htw);go_wp2;go_ret;exact⟨by have e:=HA.out;simp[htw]at e;rw[<-e];rfl,hBw⟩
end Go.Proofs.Tryz
