/-
  Lemmas about the program and the machine (C41 to C24), upon which the last text of this claim rests; no condition.
-/
import Derived.Test.YtnpjncjnmpfgpaaGreatDoorY08
set_option linter.unusedSimpArgs false
set_option linter.unusedVariables false
namespace Go.Proofs.Tryz
open Go Go.Load Go.RowKit
def xD (w:World) (v:Value) (L:List Int):Prop:=∃a c,v=.slice a L.length c∧(1≤L.length→∃b,a=some ⟨b,0,none⟩∧∀i x,L[i]? = some x→w.cell? ⟨b,i,none⟩=some (.int .i64 x))
theorem xD.keep {w w1:World} {v:Value} {L:List Int} (h:xD w v L) (hB:Below w.heap.size w w1):xD w1 v L:=by
 obtain ⟨a,c,e,f⟩:=h
 exact ⟨a,c,e,fun hl=>let ⟨b,e1,e2⟩:=f hl;⟨b,e1,fun i x hx=>qb _ hB (e2 i x hx)⟩⟩
def qcm:List Int→List Int→Bool
 | [],[]=>false
 | [],_ :: _=>true
 | _ :: _,[]=>false
 | a :: A,b :: B=>if a≠b then decide (a < b) else qcm A B
theorem qak:∀A B:List Int,(!qcm A B && !qcm B A)=decide (A=B)
 | [],[]=>rfl
 | [],_ :: _=>rfl
 | _ :: _,[]=>rfl
 | a :: A,b :: B=>by
   simp only [qcm]
   by_cases e:a=b
   ·subst e
    simp only [ne_eq,not_true_eq_false,if_false,qak A B]
    simp
   ·have e':b≠a:=Ne.symm e
    simp only [ne_eq,e,e',not_false_eq_true,if_true]
    have h1:(a :: A=b :: B)↔False:=by simp [e]
    rw [decide_eq_false (by simp [e]:¬ (a :: A=b :: B))]
    rcases Int.lt_or_gt_of_ne e with h | h
    ·rw [decide_eq_true h];rfl
    ·rw [decide_eq_true (show b < a from h)];simp
theorem qeS {A B:List Int} {k:Nat} {a b:Int} (ha:A[k]? = some a) (hb:B[k]? = some b):qcm (A.drop k) (B.drop k)=if a≠b then decide (a < b) else qcm (A.drop (k+1)) (B.drop (k+1)):=by
 obtain ⟨h1,rfl⟩:=List.getElem?_eq_some_iff.1 ha
 obtain ⟨h2,rfl⟩:=List.getElem?_eq_some_iff.1 hb
 rw [List.drop_eq_getElem_cons h1,List.drop_eq_getElem_cons h2]
 rfl
theorem lexN_end {A B:List Int} {k:Nat} (h:A.length≤k∨B.length≤k) (hk1:k≤A.length) (hk2:k≤B.length):qcm (A.drop k) (B.drop k)=decide (A.length < B.length):=by
 by_cases h1:A.length≤k
 ·rw [List.drop_eq_nil_of_le h1]
  by_cases h2:B.length≤k
  ·rw [List.drop_eq_nil_of_le h2,decide_eq_false (by omega)];rfl
  ·rw [List.drop_eq_getElem_cons (show k < B.length by omega),decide_eq_true (by omega)];rfl
 ·rw [List.drop_eq_getElem_cons (show k < A.length by omega),List.drop_eq_nil_of_le (show B.length≤k by omega),decide_eq_false (by omega)];rfl
set_option maxHeartbeats 2000000 in
set_option maxRecDepth 100000 in
theorem Xr (va vb:Value) (A B:List Int) (w:World) (hA:xD w va A) (hB:xD w vb B) (h1:A.length≤100) (h2:B.length≤100):Calls qf 58 #[va,vb] w fun e w'=>e=.returned (.bool (qcm A B))∧Below w.heap.size w w':=by
 obtain ⟨aa,ca,rfl,ha⟩:=hA
 obtain ⟨ab,cb,rfl,hb⟩:=hB
 have HA:=Lib.hid ha
 have HB:=Lib.hid hb
 have HD:=Lib.hid fun (k:Nat) (a b:Int) (ha:A[k]? = some a) (hb:B[k]? = some b)=>qeS ha hb
 have HE:=Lib.hid fun (k:Nat) (h:A.length≤k∨B.length≤k) (hk1:k≤A.length) (hk2:k≤B.length)=>lexN_end h hk1 hk2
 have H0:Hid (qcm A B=qcm (A.drop 0) (B.drop 0)):=Lib.hid rfl
 clear ha hb
 go_enter s58,ntmps58
 go_wp2
 go_loopw [5] (fun i wr=>∃k:Nat,i=.int .i64 k∧k≤A.length∧k≤B.length∧Below w.heap.size w wr∧Hid (qcm A B=qcm (A.drop k) (B.drop k))) (fun i _=>A.length - (intOf i).toNat)
 case atStart=>exact ⟨0,rfl,by omega,by omega,.refl _ _,H0⟩
 case round =>
  obtain ⟨k,rfl,hk1,hk2,hBr,HL⟩:=hrel
  have hk0:(0:Int)≤(k:Int):=Int.natCast_nonneg k
  by_cases hlt:k < A.length∧k < B.length
  ·obtain ⟨l1,l2⟩:=hlt
   obtain ⟨a,ha⟩:∃a,A[k]? = some a:=⟨A[k],by simp [l1]⟩
   obtain ⟨b,hb⟩:∃b,B[k]? = some b:=⟨B[k],by simp [l2]⟩
   obtain ⟨ba,rfl,ra⟩:=HA.out (by omega)
   obtain ⟨bb,rfl,rb⟩:=HB.out (by omega)
   have c0:=qb _ hBr (ra k a ha)
   have c1:=qb _ hBr (rb k b hb)
   have hd:=Lib.hid (HD.out k a b ha hb)
   have i1:(k:Int) < (A.length:Int):=by omega
   have i2:(k:Int) < (B.length:Int):=by omega
   clear ra rb ha hb
   by_cases e:a=b
   ·subst e
    go_wp2
    go_quiet (fail)
    go_wp2
    go_roundw
    case rel=>exact ⟨k+1,rfl,by omega,by omega,below_drewN hBr _,Lib.hid (HL.out.trans (by rw [hd.out,if_neg (by simp)]))⟩
    case measure=>simp [intOf];omega
   ·have hab:(a == b)=false:=by simp [e]
    have hab':(a != b)=true:=by simp [e]
    have hL:Hid (qcm A B=decide (a < b)):=Lib.hid (HL.out.trans (by rw [hd.out,if_pos e]))
    clear e
    go_wp2
    go_quiet (fail)
    go_wp2
    go_quiet (fail)
    go_wp2
    go_ret
    exact ⟨by rw [hL.out];rfl,below_drewN (below_drewN hBr _) _⟩
  ·have hE:=Lib.hid (HL.out.trans (HE.out k (by omega) hk1 hk2))
   by_cases l1:k < A.length
   ·have i1:(k:Int) < (A.length:Int):=by omega
    have i2:¬ (k:Int) < (B.length:Int):=by omega
    go_wp2
    go_ret
    refine ⟨?_,hBr⟩
    rw [hE.out];simp
   ·have i1:¬ (k:Int) < (A.length:Int):=by omega
    go_wp2
    go_ret
    refine ⟨?_,hBr⟩
    rw [hE.out];simp
set_option maxHeartbeats 1000000 in
theorem JI (va vb:Value) (A B:List Int) (w:World) (hA:xD w va A) (hB:xD w vb B) (h1:A.length≤100) (h2:B.length≤100):Calls qf 14 #[va,vb] w fun e w'=>e=.returned (.bool (decide (A=B)))∧Below w.heap.size w w':=by
 have hl1:=fun W (h:Below w.heap.size w W)=>Xr va vb A B W (hA.keep h) (hB.keep h) h1 h2
 have hl2:=fun W (h:Below w.heap.size w W)=>Xr vb va B A W (hB.keep h) (hA.keep h) h2 h1
 have hb:=Lib.hid (qak A B)
 obtain ⟨aa,ca,rfl,_⟩:=hA
 obtain ⟨ab,cb,rfl,_⟩:=hB
 cases h3:qcm A B with
 | true =>
   simp only [h3] at hl1 hb
   go_enter s14,ntmps14
   go_wp2_with (go_at_call 58;refine (hl1 _ (by go_grown)).mono ?_;rintro e w1 ⟨rfl,hB1⟩)
   go_ret
   exact ⟨by rw [← hb.out];rfl,hB1⟩
 | false =>
   simp only [h3] at hl1 hb
   go_enter s14,ntmps14
   go_wp2_with (first | (go_at_call 58;(with_reducible refine (hl1 _ (.refl _ _)).mono ?_);rintro e w1 ⟨rfl,hB1⟩) | (go_at_call 58;(with_reducible refine (hl2 _ (by assumption)).mono ?_);rintro e w2 ⟨rfl,hB2⟩))
   go_ret
   exact ⟨by rw [← hb.out];rfl,bcl hB1 hB2⟩
theorem Jj (va vb:Value) (A B:List Int) (w:World) (hA:xD w va A) (hB:xD w vb B) (h1:A.length≤100) (h2:B.length≤100):Calls qf 40 #[va,vb] w fun e w'=>e=.returned (.bool (decide (A=B)))∧Below w.heap.size w w':=by
 have hs:=JI va vb A B w hA hB h1 h2
 obtain ⟨aa,ca,rfl,_⟩:=hA
 obtain ⟨ab,cb,rfl,_⟩:=hB
 go_enter s40,ntmps40
 go_wp2_with (go_at_call 14;refine hs.mono ?_;rintro e w1 ⟨rfl,hB1⟩)
 go_ret
 exact ⟨rfl,hB1⟩
theorem jm {base:Nat} {W:World} {v:Value} {L:List Int} (h:SliceOf base W v L):xD W v L:=by
 have hform:∃a c,v=.slice a L.length c:=by
  obtain ⟨_,⟨h1,h2⟩ | ⟨g,cap,cur,rfl,_⟩⟩:=h
  ·exact ⟨none,0,by rw [h1];simp_all⟩
  ·exact ⟨_,_,rfl⟩
 obtain ⟨a,c,rfl⟩:=hform
 refine ⟨a,c,rfl,fun hl=>?_⟩
 cases a with
 | none =>
   obtain ⟨_,⟨h1,h2⟩ | ⟨g,cap,cur,e,_⟩⟩:=h
   ·exact absurd h2 (by omega)
   ·cases e
 | some ad =>
   obtain ⟨_,⟨h1,h2⟩ | ⟨g,cap,cur,e,hb,hg,hn,_,hs,ht⟩⟩:=h
   ·cases h1
   ·obtain rfl:ad=⟨g,0,none⟩:=by injection e with e1;exact Option.some.inj e1
    refine ⟨g,rfl,fun i x hx=>?_⟩
    have hx':(L.map (Value.int .i64))[i]? = some (.int .i64 x):=by rw [List.getElem?_map,hx];rfl
    rw [← ht,List.getElem?_take] at hx'
    split at hx'
    ·have hu:cur[i]? = some (.int .i64 x):=by simpa using hx'
     unfold World.cell?;rw [hg];simp [hu]
    ·cases hx'
structure BestP (B:Bk) (h k:Nat) (r:Int×(Int×Int)):Prop where
 none:r.1=-1→r.2=(0,1)∧∀j g,j < k→B.gs[j]? = some g→g.trunks=7
 some:r.1≠-1→∃i g,i < k∧r.1=(i:Int)∧B.gs[i]? = some g∧g.trunks≠7∧r.2=yH g h ∧
  ∀j g',j < k→B.gs[j]? = some g'→g'.trunks≠7→above (yH g' h) r.2=false∧(j < i→above r.2 (yH g' h)=true)
def xy (g:Grp) (j k:Nat):Int×Int:=if j < k then (match g.traffic[j]? with | some x=>qL (low x.1 x.2) g.trunks.toNat | none=>(0,0)) else (0,0)
theorem qdz (w:World):(isAgg 119).run qf w=.ok true w:=(zC _ _).trans (Tryz.isAgg119 w)
theorem qbE (w:World):(Go.sizeOf 119).run qf w=.ok 6 w:=(yl _ _).trans (Tryz.sizeOf119 w)
theorem qbf {g:Grp} {j k:Nat} (h:j≠k):xy g j (k+1)=xy g j k:=by
 unfold xy
 by_cases a:j < k
 ·rw [if_pos a,if_pos (by omega)]
 ·rw [if_neg a,if_neg (by omega)]
theorem qcX {g:Grp} {k:Nat} {x:Int×Int} (h:g.traffic[k]? = some x):xy g k (k+1)=qL (low x.1 x.2) g.trunks.toNat:=by
 unfold xy;rw [if_pos (by omega),h]
theorem qeH {g:Grp} {j:Nat} (h:g.traffic.length≤3):xy g j 3=xy g j g.traffic.length:=by
 unfold xy
 by_cases a:j < g.traffic.length
 ·rw [if_pos a,if_pos (by omega)]
 ·rw [if_neg a,List.getElem?_eq_none (by omega)];split <;> rfl
def hv (f:Nat→Int×Int):Value:=.agg #[.int .i64 (f 0).1,.int .i64 (f 0).2,.int .i64 (f 1).1,.int .i64 (f 1).2,.int .i64 (f 2).1,.int .i64 (f 2).2]
def ArrAt (W:World) (ab:Nat) (f:Nat→Int×Int):Prop:=∀j,j < 3→W.cell? ⟨ab,j * 2,none⟩=some (.int .i64 (f j).1)∧W.cell? ⟨ab,j * 2+1,none⟩=some (.int .i64 (f j).2)∧W.frozen? ⟨ab,j * 2,none⟩=false∧W.frozen? ⟨ab,j * 2+1,none⟩=false
structure But2 (W0:World) (ab k:Nat) (W:World):Prop where
 size:W0.heap.size≤W.heap.size
 cell:∀p v,W0.cell? p=some v→p≠⟨ab,k * 2,none⟩→p≠⟨ab,k * 2+1,none⟩→W.cell? p=some v
 fz:∀p v,W0.cell? p=some v→W0.frozen? p=false→W.frozen? p=false
 there:∀p v,W0.cell? p=some v→(W.cell? p).isSome=true
theorem But2.refl (W0:World) (ab k:Nat):But2 W0 ab k W0:=⟨Nat.le_refl _,fun _ _ h _ _=>h,fun _ _ _ h=>h,fun _ _ h=>qx h⟩
theorem But2.call {W0 W w1:World} {ab k:Nat} (h:But2 W0 ab k W) (hB:Below W.heap.size W w1):But2 W0 ab k w1 :=
 ⟨Nat.le_trans h.size hB.size,fun p v a b c=>qb _ hB (h.cell p v a b c),fun p v a b=>by
   obtain ⟨u,hu⟩:=Option.isSome_iff_exists.1 (h.there p v a)
   exact qg _ hB hu (h.fz p v a b),fun p v a=>by
   obtain ⟨u,hu⟩:=Option.isSome_iff_exists.1 (h.there p v a)
   exact qx (qb _ hB hu)⟩
theorem But2.put {W0 W:World} {ab k:Nat} (u v:Value) (h:But2 W0 ab k W):But2 W0 ab k ((W.setCell ⟨ab,k * 2,none⟩ u).setCell ⟨ab,k * 2+1,none⟩ v) :=
 ⟨by simpa using h.size,fun p x a b c=>qc (Ne.symm c) (qc (Ne.symm b) (h.cell p x a b c)),fun p x a b=>by simpa using h.fz p x a b,fun p x a=>qA (qA (h.there p x a))⟩
abbrev QN (w W0:World) (hb xb ab T:Nat) (x:Int×Int) (k:Nat) (W:World):Prop :=
 W.cell? ⟨xb,0,none⟩=some (.int .i64 x.1)∧W.cell? ⟨xb,1,none⟩=some (.int .i64 x.2)∧W.cell? ⟨hb,1,none⟩=some (.int .i64 T)∧W.cell? ⟨ab,k * 2,none⟩=some (atD W ⟨ab,k * 2,none⟩)∧W.cell? ⟨ab,k * 2+1,none⟩=some (atD W ⟨ab,k * 2+1,none⟩) ∧
  W.frozen? ⟨ab,k * 2,none⟩=false∧W.frozen? ⟨ab,k * 2+1,none⟩=false∧Below w.heap.size w W∧But2 W0 ab k W
theorem QN.call {w W0 W w1:World} {hb xb ab T:Nat} {x:Int×Int} {k:Nat} (h:QN w W0 hb xb ab T x k W) (hB:Below W.heap.size W w1):QN w W0 hb xb ab T x k w1:=by
 obtain ⟨a,b,c,d,e,f,g,i,j⟩:=h
 exact ⟨qb _ hB a,qb _ hB b,qb _ hB c,qR (qx (qb _ hB d)),qR (qx (qb _ hB e)),qg _ hB d f,qg _ hB e g,bcl i hB,j.call hB⟩
theorem QN.put {w W0 W:World} {hb xb ab T:Nat} {x:Int×Int} {k:Nat} (u v:Value) (h:QN w W0 hb xb ab T x k W) (h1:ab≠xb) (h2:ab≠hb) (h3:w.heap.size≤ab):QN w W0 hb xb ab T x k ((W.setCell ⟨ab,k * 2,none⟩ u).setCell ⟨ab,k * 2+1,none⟩ v):=by
 obtain ⟨a,b,c,d,e,f,g,i,j⟩:=h
 have n1:∀p q,(⟨ab,p,none⟩:Addr)≠⟨xb,q,none⟩:=fun p q h=>h1 (congrArg Addr.block h)
 have n2:∀p q,(⟨ab,p,none⟩:Addr)≠⟨hb,q,none⟩:=fun p q h=>h2 (congrArg Addr.block h)
 exact ⟨qc (n1 _ _) (qc (n1 _ _) a),qc (n1 _ _) (qc (n1 _ _) b),qc (n2 _ _) (qc (n2 _ _) c),qR (qA (qA (qx d))),qR (qA (qA (qx e))),by simpa using f,by simpa using g,(i.setCell h3 _).setCell h3 _,j.put u v⟩
set_option maxHeartbeats 4000000 in
set_option maxRecDepth 100000 in
theorem qeI (B:Bk) (i:Nat) (g:Grp) (hg:B.gs[i]? = some g) (w:World) (h:BookAt w B) (hG:GoodGrp B.hours g) (hh:B.hours≤3) :
 Calls qf 83 #[bv B,.int .i64 i] w fun e w'=>e=.returned (hv fun j=>xy g j 3)∧Below w.heap.size w w':=by
 obtain ⟨hi,rfl⟩:=List.getElem?_eq_some_iff.1 hg
 obtain ⟨b,o,hga,hc⟩:=h.row (by omega)
 obtain ⟨c0,c1,c2⟩:=hc i _ hg
 have hlen:=hG.len
 generalize hgg:B.gs[i]=g at *
 have hm:g∈B.gs:=List.mem_of_getElem? hg
 have HF:=Lib.hid (h.traf g hm)
 have HT:=Lib.hid hG.traf
 obtain ⟨T,hT⟩:=Int.eq_ofNat_of_zero_le hG.tr0
 have hT7:T≤7:=by have:=hG.tr7;omega
 rw [hT] at c1
 have HTT:=Lib.hid hT
 obtain ⟨lim,gr,hr,gs,ga,gc⟩:=B
 simp only at hga hlen hh hi
 subst hga
 simp only [bv]
 have hlb:b < w.heap.size:=lt_of_cell c0
 have hlb2:b < w.heap.size+1:=by omega
 have hlb3:b < w.heap.size+1+1:=by omega
 have hl3:g.traffic.length≤3:=by omega
 have HO:=Lib.hid fun (j k:Nat) (h:j≠k)=>qbf (g:=g) h
 have HH:=Lib.hid fun (k:Nat) (x:Int×Int) (h:g.traffic[k]? = some x)=>qcX h
 have HE:=Lib.hid fun (j:Nat)=>qeH (g:=g) (j:=j) hl3
 have HZ:Hid (∀j,xy g j 0=(0,0)):=Lib.hid fun j=>by simp [xy]
 rw [hT] at HH
 obtain ⟨N,hN⟩:∃N,N=xy g:=⟨_,rfl⟩
 simp only [← hN] at HO HH HE HZ ⊢
 clear hN hT hG hc hg hgg hm h
 go_enter s83,ntmps83
 go_wp2
 obtain ⟨W,hW⟩:∃W,(((w.alloc (Obj.cells #[.int .i64 lim.1,.int .i64 lim.2,.int .i64 gr,.int .i64 hr,.slice (some ⟨b,o,none⟩) gs.length gc] 67)).alloc (Obj.cells #[.int .i64 0,.int .i64 0,.int .i64 0,.int .i64 0,.int .i64 0,.int .i64 0] 119)).alloc (Obj.cells #[.int .i64 0,.int .i64 0,.int .i64 0,.int .i64 0,.int .i64 0,.int .i64 0] 119)).alloc (Obj.cells #[.string g.name,.int .i64 T,.slice g.ta g.traffic.length g.tc] 56)=W:=⟨_,rfl⟩
 have hRes:ArrAt W (w.heap.size+1) (fun _=>(0,0)):=fun j hj=>by
  subst hW
  rcases (show j=0∨j=1∨j=2 by omega) with rfl | rfl | rfl
  ·exact ⟨by go_cell,by go_cell,by go_cell,by go_cell⟩
  ·exact ⟨by go_cell,by go_cell,by go_cell,by go_cell⟩
  ·exact ⟨by go_cell,by go_cell,by go_cell,by go_cell⟩
 have t1:W.cell? ⟨w.heap.size+1+1+1,1,none⟩=some (.int .i64 T):=by subst hW;go_cell
 have hArr:ArrAt W (w.heap.size+1+1) (fun j=>N j 0):=fun j hj=>by
  simp only [HZ.out]
  subst hW
  rcases (show j=0∨j=1∨j=2 by omega) with rfl | rfl | rfl
  ·exact ⟨by go_cell,by go_cell,by go_cell,by go_cell⟩
  ·exact ⟨by go_cell,by go_cell,by go_cell,by go_cell⟩
  ·exact ⟨by go_cell,by go_cell,by go_cell,by go_cell⟩
 have hBW:Below w.heap.size w W:=by subst hW;go_grown
 have hsW:W.heap.size=w.heap.size+4:=by subst hW;simp
 rw [hW]
 clear hW
 go_loopw [18] (fun i wr=>∃k:Nat,i=.int .i64 k∧k≤g.traffic.length∧Below w.heap.size w wr∧w.heap.size+4≤wr.heap.size∧wr.cell? ⟨w.heap.size+1+1+1,1,none⟩=some (.int .i64 T)∧Hid (ArrAt wr (w.heap.size+1+1) (fun j=>N j k))∧Hid (ArrAt wr (w.heap.size+1) (fun _=>(0,0)))) (fun i _=>g.traffic.length - (intOf i).toNat)
 case atStart=>exact ⟨0,rfl,by omega,hBW,by omega,t1,Lib.hid hArr,Lib.hid hRes⟩
 case round =>
  clear t1 hArr hRes hBW hsW
  obtain ⟨k,rfl,hk,hBr,hsz,t1,HArr,HRes⟩:=hrel
  have s1:w.heap.size+1 < wr.heap.size:=by omega
  have s2:w.heap.size+1+1 < wr.heap.size:=by omega
  have s3:w.heap.size+1+1+1 < wr.heap.size:=by omega
  by_cases hlt:k < g.traffic.length
  ·obtain ⟨x,hx⟩:∃x,g.traffic[k]? = some x:=⟨g.traffic[k],by simp [hlt]⟩
   have hx2:=HT.out x (List.mem_of_getElem? hx)
   obtain ⟨tb,t0,hta,hpa⟩:=HF.out (by omega)
   have hta':=hta
   obtain ⟨e0,e1⟩:=hpa k x hx
   have e0:=qb _ hBr e0
   have e1:=qb _ hBr e1
   obtain ⟨a0,a1,a2,a3⟩:=HArr.out k (by omega)
   obtain ⟨k1,k2,k3,k4⟩:=jV hx2.1.1 hx2.1.2 hx2.2.1 hx2.2.2
   have hof:=fun W=>YL x W hx2.1.1 (by have:=hx2.2.1;omega) (by have:=hx2.1.2;omega) (by have:=hx2.2.2;omega)
   have hlo:=fun W=>Qh T (low x.1 x.2) k1 k2 k3 k4 hT7 W
   have hth:=HH.out k x hx
   rw [Int.toNat_natCast] at hth
   generalize qL (low x.1 x.2) T=r at *
   generalize low x.1 x.2=y at *
   have HN:=Lib.hid hth
   have hkk:(k:Int) < 3:=by omega
   have hk0:(0:Int)≤(k:Int):=Int.natCast_nonneg k
   simp only [fv] at hof hlo
   rw [hta]
   clear hth hx hx2 hpa k1 k2 k3 k4 hta
   have hX:QN w (wr.alloc (.cells #[.int .i64 x.1,.int .i64 x.2] 23)).drew (w.heap.size+1+1+1) wr.heap.size (w.heap.size+1+1) T x k (wr.alloc (.cells #[.int .i64 x.1,.int .i64 x.2] 23)).drew :=
    ⟨by go_cell,by go_cell,qi t1,qR (qx (qi a0)),qR (qx (qi a1)),qm a0 a2,qm a1 a3,(hBr.alloc (by omega) _).drew,.refl _ _ _⟩
   go_wp2
   go_region_held3 (fun w'=>w'.cell? ⟨wr.heap.size,0,none⟩=some (.int .i64 x.1)∧w'.cell? ⟨wr.heap.size,1,none⟩=some (.int .i64 x.2)∧w'.cell? ⟨w.heap.size+1+1+1,1,none⟩=some (.int .i64 T)∧w'.cell? ⟨w.heap.size+1+1,k * 2,none⟩=some (atD w' ⟨w.heap.size+1+1,k * 2,none⟩)∧w'.cell? ⟨w.heap.size+1+1,k * 2+1,none⟩=some (atD w' ⟨w.heap.size+1+1,k * 2+1,none⟩)∧w'.frozen? ⟨w.heap.size+1+1,k * 2,none⟩=false∧w'.frozen? ⟨w.heap.size+1+1,k * 2+1,none⟩=false∧Below w.heap.size w w'∧But2 (wr.alloc (.cells #[.int .i64 x.1,.int .i64 x.2] 23)).drew (w.heap.size+1+1) k w')
    (first | exact hX | ((with_reducible refine QN.call ?_ hB);assumption) | ((with_reducible refine QN.put _ _ ?_ ?_ ?_ ?_);assumption;omega;omega;omega))
    (first | (go_at_call 46;refine (hof _).mono ?_;rintro e w1 ⟨rfl,hB⟩) | (go_at_call 88;refine (hlo _).mono ?_;rintro e w1 ⟨rfl,hB⟩))
   rename_i hH
   obtain ⟨_,_,_,q0,q1,q2,q3,q4,q5⟩:=hH
   go_wp2
   go_roundw
   case rel =>
    have hcells:∀p v,wr.cell? p=some v→p≠⟨w.heap.size+1+1,k * 2,none⟩→p≠⟨w.heap.size+1+1,k * 2+1,none⟩→_:=fun p v hp h1 h2=>q5.cell p v (qi hp) h1 h2
    refine ⟨k+1,rfl,by omega,q4,?_,hcells _ _ t1 (by simp) (by simp),Lib.hid fun j hj=>?_,Lib.hid fun j hj=>?_⟩
    ·have:=q5.size;simp at this ⊢;omega
    ·obtain ⟨b0,b1,b2,b3⟩:=HArr.out j hj
     by_cases e:j=k
     ·subst e
      simp only [HN.out]
      refine ⟨qc (by simp) (qQ (zb (zb (qx q0)))),qQ (zb (qx q1)),q2,q3⟩
     ·simp only [HO.out j k e]
      exact ⟨hcells _ _ b0 (by simp <;> omega) (by simp <;> omega),hcells _ _ b1 (by simp <;> omega) (by simp <;> omega),q5.fz _ _ (qi b0) (qm b0 b2),q5.fz _ _ (qi b1) (qm b1 b3)⟩
    ·obtain ⟨b0,b1,b2,b3⟩:=HRes.out j hj
     exact ⟨hcells _ _ b0 (by simp) (by simp),hcells _ _ b1 (by simp) (by simp),q5.fz _ _ (qi b0) (qm b0 b2),q5.fz _ _ (qi b1) (qm b1 b3)⟩
   case measure=>simp [intOf];omega
  ·obtain rfl:k=g.traffic.length:=by omega
   have e0:=(HArr.out 0 (by omega)).1
   have e1:=(HArr.out 0 (by omega)).2.1
   have e2:=(HArr.out 1 (by omega)).1
   have e3:=(HArr.out 1 (by omega)).2.1
   have e4:=(HArr.out 2 (by omega)).1
   have e5:=(HArr.out 2 (by omega)).2.1
   obtain ⟨r0,r1,f0,f1⟩:=HRes.out 0 (by omega)
   obtain ⟨r2,r3,f2,f3⟩:=HRes.out 1 (by omega)
   obtain ⟨r4,r5,f4,f5⟩:=HRes.out 2 (by omega)
   simp only [Nat.zero_mul,Nat.one_mul,Nat.reduceMul,Nat.reduceAdd,Nat.zero_add] at e0 e1 e2 e3 e4 e5 r0 r1 r2 r3 r4 r5 f0 f1 f2 f3 f4 f5
   have HR:Hid (hv (fun j=>N j 3)=.agg #[.int .i64 (N 0 g.traffic.length).1,.int .i64 (N 0 g.traffic.length).2,.int .i64 (N 1 g.traffic.length).1,.int .i64 (N 1 g.traffic.length).2,.int .i64 (N 2 g.traffic.length).1,.int .i64 (N 2 g.traffic.length).2]):=Lib.hid (by simp only [hv,HE.out])
   go_wp2
   exact ret_c6 results83 qdz qbE rfl r0 r1 r2 r3 r4 r5 ⟨by rw [HR.out],Below.set6 hBr (Nat.le_succ _)⟩
end Go.Proofs.Tryz
