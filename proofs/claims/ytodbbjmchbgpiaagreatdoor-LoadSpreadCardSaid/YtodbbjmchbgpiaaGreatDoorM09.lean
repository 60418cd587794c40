/-
  Lemmas about the program and the machine (C41 to C24), upon which the last text of this claim rests; no condition.
-/
import Derived.Test.YtodbbjmchbgpiaaGreatDoorM07
set_option linter.unusedSimpArgs false
set_option linter.unusedVariables false
namespace Go.Proofs.Tryz
open Go Go.Load Go.RowKit
def xM (w:World) (v:Value) (L:List Int):Prop:=∃a c,v=.slice a L.length c∧(1≤L.length→∃b,a=some ⟨b,0,none⟩∧∀i x,L[i]? = some x→w.cell? ⟨b,i,none⟩=some (.int .i64 x))
theorem xM.keep {w w1:World} {v:Value} {L:List Int} (h:xM w v L) (hB:Below w.heap.size w w1):xM w1 v L:=by
 obtain ⟨a,c,e,f⟩:=h
 exact ⟨a,c,e,fun hl=>let ⟨b,e1,e2⟩:=f hl;⟨b,e1,fun i x hx=>qb _ hB (e2 i x hx)⟩⟩
def qcT:List Int→List Int→Bool
 | [],[]=>false
 | [],_ :: _=>true
 | _ :: _,[]=>false
 | a :: A,b :: B=>if a≠b then decide (a < b) else qcT A B
theorem qaM:∀A B:List Int,(!qcT A B && !qcT B A)=decide (A=B)
 | [],[]=>rfl
 | [],_ :: _=>rfl
 | _ :: _,[]=>rfl
 | a :: A,b :: B=>by
   simp only [qcT]
   by_cases e:a=b
   ·subst e
    simp only [ne_eq,not_true_eq_false,if_false,qaM A B]
    simp
   ·have e':b≠a:=Ne.symm e
    simp only [ne_eq,e,e',not_false_eq_true,if_true]
    have h1:(a :: A=b :: B)↔False:=by simp [e]
    rw [decide_eq_false (by simp [e]:¬ (a :: A=b :: B))]
    rcases Int.lt_or_gt_of_ne e with h | h
    ·rw [decide_eq_true h];rfl
    ·rw [decide_eq_true (show b < a from h)];simp
theorem qfs {A B:List Int} {k:Nat} {a b:Int} (ha:A[k]? = some a) (hb:B[k]? = some b):qcT (A.drop k) (B.drop k)=if a≠b then decide (a < b) else qcT (A.drop (k+1)) (B.drop (k+1)):=by
 obtain ⟨h1,rfl⟩:=List.getElem?_eq_some_iff.1 ha
 obtain ⟨h2,rfl⟩:=List.getElem?_eq_some_iff.1 hb
 rw [List.drop_eq_getElem_cons h1,List.drop_eq_getElem_cons h2]
 rfl
theorem lexN_end {A B:List Int} {k:Nat} (h:A.length≤k∨B.length≤k) (hk1:k≤A.length) (hk2:k≤B.length):qcT (A.drop k) (B.drop k)=decide (A.length < B.length):=by
 by_cases h1:A.length≤k
 ·rw [List.drop_eq_nil_of_le h1]
  by_cases h2:B.length≤k
  ·rw [List.drop_eq_nil_of_le h2,decide_eq_false (by omega)];rfl
  ·rw [List.drop_eq_getElem_cons (show k < B.length by omega),decide_eq_true (by omega)];rfl
 ·rw [List.drop_eq_getElem_cons (show k < A.length by omega),List.drop_eq_nil_of_le (show B.length≤k by omega),decide_eq_false (by omega)];rfl
set_option maxHeartbeats 2000000 in
set_option maxRecDepth 100000 in
theorem XK (va vb:Value) (A B:List Int) (w:World) (hA:xM w va A) (hB:xM w vb B) (h1:A.length≤100) (h2:B.length≤100):Calls qg 72 #[va,vb] w fun e w'=>e=.returned (.bool (qcT A B))∧Below w.heap.size w w':=by
 obtain ⟨aa,ca,rfl,ha⟩:=hA
 obtain ⟨ab,cb,rfl,hb⟩:=hB
 have HA:=Lib.hid ha
 have HB:=Lib.hid hb
 have HD:=Lib.hid fun (k:Nat) (a b:Int) (ha:A[k]? = some a) (hb:B[k]? = some b)=>qfs ha hb
 have HE:=Lib.hid fun (k:Nat) (h:A.length≤k∨B.length≤k) (hk1:k≤A.length) (hk2:k≤B.length)=>lexN_end h hk1 hk2
 have H0:Hid (qcT A B=qcT (A.drop 0) (B.drop 0)):=Lib.hid rfl
 clear ha hb
 go_enter s72,ntmps72
 go_wp2
 go_loopw [5] (fun i wr=>∃k:Nat,i=.int .i64 k∧k≤A.length∧k≤B.length∧Below w.heap.size w wr∧Hid (qcT A B=qcT (A.drop k) (B.drop k))) (fun i _=>A.length - (intOf i).toNat)
 case atStart=>exact ⟨0,rfl,by omega,by omega,.refl _ _,H0⟩
 case round =>
  obtain ⟨k,rfl,hk1,hk2,hBr,HL⟩:=hrel
  have hk0:(0:Int)≤(k:Int):=Int.natCast_nonneg k
  by_cases hlt:k < A.length∧k < B.length
  ·obtain ⟨l1,l2⟩:=hlt
   obtain ⟨a,ha⟩:∃a,A[k]? = some a:=⟨A[k],by simp [l1]⟩
   obtain ⟨b,hb⟩:∃b,B[k]? = some b:=⟨B[k],by simp [l2]⟩
   obtain ⟨ba,rfl,ra⟩:=HA.out (by omega)
   obtain ⟨bb,rfl,rb⟩:=HB.out (by omega)
   have c0:=qb _ hBr (ra k a ha)
   have c1:=qb _ hBr (rb k b hb)
   have hd:=Lib.hid (HD.out k a b ha hb)
   have i1:(k:Int) < (A.length:Int):=by omega
   have i2:(k:Int) < (B.length:Int):=by omega
   clear ra rb ha hb
   by_cases e:a=b
   ·subst e
    go_wp2
    go_quiet (fail)
    go_wp2
    go_roundw
    case rel=>exact ⟨k+1,rfl,by omega,by omega,below_drewN hBr _,Lib.hid (HL.out.trans (by rw [hd.out,if_neg (by simp)]))⟩
    case measure=>simp [intOf];omega
   ·have hab:(a == b)=false:=by simp [e]
    have hab':(a != b)=true:=by simp [e]
    have hL:Hid (qcT A B=decide (a < b)):=Lib.hid (HL.out.trans (by rw [hd.out,if_pos e]))
    clear e
    go_wp2
    go_quiet (fail)
    go_wp2
    go_quiet (fail)
    go_wp2
    go_ret
    exact ⟨by rw [hL.out];rfl,below_drewN (below_drewN hBr _) _⟩
  ·have hE:=Lib.hid (HL.out.trans (HE.out k (by omega) hk1 hk2))
   by_cases l1:k < A.length
   ·have i1:(k:Int) < (A.length:Int):=by omega
    have i2:¬ (k:Int) < (B.length:Int):=by omega
    go_wp2
    go_ret
    refine ⟨?_,hBr⟩
    rw [hE.out];simp
   ·have i1:¬ (k:Int) < (A.length:Int):=by omega
    go_wp2
    go_ret
    refine ⟨?_,hBr⟩
    rw [hE.out];simp
set_option maxHeartbeats 1000000 in
theorem qaj (va vb:Value) (A B:List Int) (w:World) (hA:xM w va A) (hB:xM w vb B) (h1:A.length≤100) (h2:B.length≤100):Calls qg 24 #[va,vb] w fun e w'=>e=.returned (.bool (decide (A=B)))∧Below w.heap.size w w':=by
 have hl1:=fun W (h:Below w.heap.size w W)=>XK va vb A B W (hA.keep h) (hB.keep h) h1 h2
 have hl2:=fun W (h:Below w.heap.size w W)=>XK vb va B A W (hB.keep h) (hA.keep h) h2 h1
 have hb:=Lib.hid (qaM A B)
 obtain ⟨aa,ca,rfl,_⟩:=hA
 obtain ⟨ab,cb,rfl,_⟩:=hB
 cases h3:qcT A B with
 | true =>
   simp only [h3] at hl1 hb
   go_enter s24,ntmps24
   go_wp2_with (go_at_call 72;refine (hl1 _ (by go_grown)).mono ?_;rintro e w1 ⟨rfl,hB1⟩)
   go_ret
   exact ⟨by rw [← hb.out];rfl,hB1⟩
 | false =>
   simp only [h3] at hl1 hb
   go_enter s24,ntmps24
   go_wp2_with (first | (go_at_call 72;(with_reducible refine (hl1 _ (.refl _ _)).mono ?_);rintro e w1 ⟨rfl,hB1⟩) | (go_at_call 72;(with_reducible refine (hl2 _ (by assumption)).mono ?_);rintro e w2 ⟨rfl,hB2⟩))
   go_ret
   exact ⟨by rw [← hb.out];rfl,bcl hB1 hB2⟩
theorem JL (va vb:Value) (A B:List Int) (w:World) (hA:xM w va A) (hB:xM w vb B) (h1:A.length≤100) (h2:B.length≤100):Calls qg 48 #[va,vb] w fun e w'=>e=.returned (.bool (decide (A=B)))∧Below w.heap.size w w':=by
 have hs:=qaj va vb A B w hA hB h1 h2
 obtain ⟨aa,ca,rfl,_⟩:=hA
 obtain ⟨ab,cb,rfl,_⟩:=hB
 go_enter s48,ntmps48
 go_wp2_with (go_at_call 24;refine hs.mono ?_;rintro e w1 ⟨rfl,hB1⟩)
 go_ret
 exact ⟨rfl,hB1⟩
theorem xg {base:Nat} {W:World} {v:Value} {L:List Int} (h:SliceOf base W v L):xM W v L:=by
 have hform:∃a c,v=.slice a L.length c:=by
  obtain ⟨_,⟨h1,h2⟩ | ⟨g,cap,cur,rfl,_⟩⟩:=h
  ·exact ⟨none,0,by rw [h1];simp_all⟩
  ·exact ⟨_,_,rfl⟩
 obtain ⟨a,c,rfl⟩:=hform
 refine ⟨a,c,rfl,fun hl=>?_⟩
 cases a with
 | none =>
   obtain ⟨_,⟨h1,h2⟩ | ⟨g,cap,cur,e,_⟩⟩:=h
   ·exact absurd h2 (by omega)
   ·cases e
 | some ad =>
   obtain ⟨_,⟨h1,h2⟩ | ⟨g,cap,cur,e,hb,hg,hn,_,hs,ht⟩⟩:=h
   ·cases h1
   ·obtain rfl:ad=⟨g,0,none⟩:=by injection e with e1;exact Option.some.inj e1
    refine ⟨g,rfl,fun i x hx=>?_⟩
    have hx':(L.map (Value.int .i64))[i]? = some (.int .i64 x):=by rw [List.getElem?_map,hx];rfl
    rw [← ht,List.getElem?_take] at hx'
    split at hx'
    ·have hu:cur[i]? = some (.int .i64 x):=by simpa using hx'
     unfold World.cell?;rw [hg];simp [hu]
    ·cases hx'
def qgl (t b n:Nat):Bool :=
 Jz (zl t b n) && Jz (zl t b (n+1)) && decide (okS (zl t b n) 268435456) && decide (okS (zl t b (n+1)) 8589934592) && !above (zl t b (n+1)) (zl t b n) &&
 decide (((zl t b n).1 * (zl t b (n+1)).2 < 4611686018427387904∧(zl t b n).2 * (zl t b (n+1)).2 < 4611686018427387904)∧(zl t b (n+1)).1 * (zl t b n).2≤(zl t b n).1 * (zl t b (n+1)).2) &&
 (qba t b n == xV (low (t:Int) (b:Int)) n) && Jz (qba t b n)
theorem save_all:((List.range 13).all fun t=>(List.range 4).all fun b=>(List.range 7).all fun n=>qgl t (b+1) n)=true:=by decide +kernel
theorem ZT {t b n:Nat} (ht:t≤12) (hb:1≤b∧b≤4) (hn:n≤6):qgl t b n=true:=by
 have h:=save_all
 rw [List.all_eq_true] at h
 have h:=h t (List.mem_range.2 (by omega))
 rw [List.all_eq_true] at h
 have h:=h (b - 1) (List.mem_range.2 (by omega))
 rw [List.all_eq_true] at h
 have h:=h n (List.mem_range.2 (by omega))
 rwa [show b - 1+1=b by omega] at h
theorem qdo {p q:Int×Int} (h:above p q=true):above q p=false:=by
 unfold above at *
 rw [decide_eq_true_eq] at h
 rw [decide_eq_false_iff_not]
 omega
theorem qex {p q r:Int×Int} (hp:0 < p.2) (hq:0 < q.2) (hr:0 < r.2) (h1:above p q=true) (h2:above r q=false):above p r=true:=by
 cases h:above p r with
 | true=>rfl
 | false =>
   have h3:=YE hp hr hq h h2
   rw [h3] at h1
   cases h1
structure BestP (B:Bk) (h k:Nat) (r:Int×(Int×Int)):Prop where
 none:r.1=-1→r.2=(0,1)∧∀j g,j < k→B.gs[j]? = some g→g.trunks=7
 some:r.1≠-1→∃i g,i < k∧r.1=(i:Int)∧B.gs[i]? = some g∧g.trunks≠7∧r.2=qp g h ∧
  ∀j g',j < k→B.gs[j]? = some g'→g'.trunks≠7→above (qp g' h) r.2=false∧(j < i→above r.2 (qp g' h)=true)
theorem ym {B:Bk} (hV:Valid B) {h:Nat} (hh:(h:Int) < B.hours) {j:Nat} {g:Grp} (hg:B.gs[j]? = some g) (h7:g.trunks≠7):0 < (qp g h).2:=by
 have hG:=hV.grp g (List.mem_of_getElem? hg)
 have hl:h < g.traffic.length:=by have:=hG.len;omega
 have ht:=hG.traf g.traffic[h] (List.getElem_mem _)
 have hd:g.traffic.getD h (0,1)=g.traffic[h]:=by rw [List.getD_eq_getElem?_getD,List.getElem?_eq_getElem hl];rfl
 obtain ⟨k1,k2,k3,k4⟩:=jq ht.1.1 ht.1.2 ht.2.1 ht.2.2
 have t7:=hG.tr7
 have t0:=hG.tr0
 unfold qp
 rw [hd]
 have:=(jK k1 k2 k3 k4 (T:=g.trunks.toNat) (by omega)).2.2.1
 omega
theorem qeB {B:Bk} (hV:Valid B) {h:Nat} (hh:(h:Int) < B.hours):∀k,k≤B.gs.length→BestP B h k (qX B h k)
 | 0,_=>⟨fun _=>⟨rfl,fun j g hj=>absurd hj (Nat.not_lt_zero _)⟩,fun e=>absurd rfl e⟩
 | k+1,hk=>by
   have ih:=qeB hV hh k (by omega)
   obtain ⟨g,hg⟩:∃g,B.gs[k]? = some g:=⟨B.gs[k]'(by omega),List.getElem?_eq_getElem (by omega)⟩
   simp only [qX,hg]
   have last:∀{j:Nat} {g':Grp},j < k+1→B.gs[j]? = some g'→(j < k∧B.gs[j]? = some g')∨(j=k∧g'=g):=fun hj hg'=>by
    rcases Nat.lt_succ_iff_lt_or_eq.1 hj with q | rfl
    ·exact .inl ⟨q,hg'⟩
    ·rw [hg] at hg';cases hg';exact .inr ⟨rfl,rfl⟩
   by_cases h7:g.trunks=7
   ·rw [if_pos h7]
    refine ⟨fun e=>⟨(ih.none e).1,fun j g' hj hg'=>?_⟩,fun e=>?_⟩
    ·rcases last hj hg' with ⟨q,hq⟩ | ⟨rfl,rfl⟩
     ·exact (ih.none e).2 j g' q hq
     ·exact h7
    ·obtain ⟨i,gi,hi,e1,hgi,n7,e2,hall⟩:=ih.some e
     refine ⟨i,gi,by omega,e1,hgi,n7,e2,fun j g' hj hg' n7'=>?_⟩
     rcases last hj hg' with ⟨q,hq⟩ | ⟨rfl,rfl⟩
     ·exact hall j g' q hq n7'
     ·exact absurd h7 n7'
   ·rw [if_neg h7]
    have pk:=ym hV hh hg h7
    by_cases hc:(qX B h k).1=-1∨above (qp g h) (qX B h k).2=true
    ·rw [if_pos hc]
     refine ⟨fun e=>absurd e (by simp only;omega),fun _=>⟨k,g,Nat.lt_succ_self k,rfl,hg,h7,rfl,fun j g' hj hg' n7'=>?_⟩⟩
     simp only
     rcases last hj hg' with ⟨q,hq⟩ | ⟨rfl,rfl⟩
     ·by_cases e:(qX B h k).1=-1
      ·exact absurd ((ih.none e).2 j g' q hq) n7'
      ·obtain ⟨i,gi,hi,e1,hgi,n7,e2,hall⟩:=ih.some e
       have ha:=hc.resolve_left e
       have pj:=ym hV hh hq n7'
       have pi:=ym hV hh hgi n7
       rw [← e2] at pi
       have h1:=(hall j g' q hq n7').1
       have h2:=qex pk pi pj ha h1
       exact ⟨qdo h2,fun _=>h2⟩
     ·refine ⟨?_,fun q=>absurd q (Nat.lt_irrefl _)⟩
      unfold above
      rw [decide_eq_false_iff_not]
      omega
    ·rw [if_neg hc]
     have hn:(qX B h k).1≠-1:=fun e=>hc (.inl e)
     refine ⟨fun e=>absurd e hn,fun e=>?_⟩
     obtain ⟨i,gi,hi,e1,hgi,n7,e2,hall⟩:=ih.some e
     refine ⟨i,gi,by omega,e1,hgi,n7,e2,fun j g' hj hg' n7'=>?_⟩
     rcases last hj hg' with ⟨q,hq⟩ | ⟨rfl,rfl⟩
     ·exact hall j g' q hq n7'
     ·refine ⟨?_,fun q=>by omega⟩
      cases hx:above (qp g' h) (qX B h j).2 with
      | false=>rfl
      | true=>exact absurd (.inr hx) hc
theorem qcN {B:Bk} (hV:Valid B) {h:Nat} (hh:(h:Int) < B.hours) {j:Nat} {g:Grp} (hg:B.gs[j]? = some g) (h7:g.trunks≠7):Jz (qp g h)=true∧0≤(qp g h).1∧(qp g h).1 < 4611686018427387904∧1≤(qp g h).2∧(qp g h).2 < 4611686018427387904:=by
 have hG:=hV.grp g (List.mem_of_getElem? hg)
 have hl:h < g.traffic.length:=by have:=hG.len;omega
 have ht:=hG.traf g.traffic[h] (List.getElem_mem _)
 have hd:g.traffic.getD h (0,1)=g.traffic[h]:=by rw [List.getD_eq_getElem?_getD,List.getElem?_eq_getElem hl];rfl
 obtain ⟨k1,k2,k3,k4⟩:=jq ht.1.1 ht.1.2 ht.2.1 ht.2.2
 have t7:=hG.tr7
 have t0:=hG.tr0
 have hb:=jK k1 k2 k3 k4 (T:=g.trunks.toNat) (by omega)
 unfold qp
 rw [hd]
 refine ⟨?_,hb⟩
 generalize g.traffic[h]=x at *
 obtain ⟨x1,x2⟩:=x
 obtain ⟨⟨a1,a2⟩,a3,a4⟩:=ht
 obtain ⟨t,rfl⟩:=Int.eq_ofNat_of_zero_le a1
 obtain ⟨c,rfl⟩:=Int.eq_ofNat_of_zero_le (show 0≤x2 by simp only at a3;omega)
 simp only at a2 a3 a4
 have hf:=ZT (t:=t) (b:=c) (n:=g.trunks.toNat) (by omega) ⟨by omega,by omega⟩ (by omega)
 unfold qgl at hf
 simp only [Bool.and_eq_true,decide_eq_true_eq,Bool.not_eq_true',beq_iff_eq] at hf
 rw [← hf.1.2]
 exact hf.2
def zH (g:Grp) (j k:Nat):Int×Int:=if j < k then (match g.traffic[j]? with | some x=>qN (low x.1 x.2) g.trunks.toNat | none=>(0,0)) else (0,0)
theorem qgr (w:World):(isAgg 81).run qg w=.ok true w:=(zN _ _).trans (Tryz.isAgg81 w)
theorem qeb (w:World):(Go.sizeOf 81).run qg w=.ok 6 w:=(yw _ _).trans (Tryz.sizeOf81 w)
theorem qbK {g:Grp} {j k:Nat} (h:j≠k):zH g j (k+1)=zH g j k:=by
 unfold zH
 by_cases a:j < k
 ·rw [if_pos a,if_pos (by omega)]
 ·rw [if_neg a,if_neg (by omega)]
theorem qdB {g:Grp} {k:Nat} {x:Int×Int} (h:g.traffic[k]? = some x):zH g k (k+1)=qN (low x.1 x.2) g.trunks.toNat:=by
 unfold zH;rw [if_pos (by omega),h]
theorem qfg {g:Grp} {j:Nat} (h:g.traffic.length≤3):zH g j 3=zH g j g.traffic.length:=by
 unfold zH
 by_cases a:j < g.traffic.length
 ·rw [if_pos a,if_pos (by omega)]
 ·rw [if_neg a,List.getElem?_eq_none (by omega)];split <;> rfl
def hv (f:Nat→Int×Int):Value:=.agg #[.int .i64 (f 0).1,.int .i64 (f 0).2,.int .i64 (f 1).1,.int .i64 (f 1).2,.int .i64 (f 2).1,.int .i64 (f 2).2]
def ArrAt (W:World) (ab:Nat) (f:Nat→Int×Int):Prop:=∀j,j < 3→W.cell? ⟨ab,j * 2,none⟩=some (.int .i64 (f j).1)∧W.cell? ⟨ab,j * 2+1,none⟩=some (.int .i64 (f j).2)∧W.frozen? ⟨ab,j * 2,none⟩=false∧W.frozen? ⟨ab,j * 2+1,none⟩=false
structure But2 (W0:World) (ab k:Nat) (W:World):Prop where
 size:W0.heap.size≤W.heap.size
 cell:∀p v,W0.cell? p=some v→p≠⟨ab,k * 2,none⟩→p≠⟨ab,k * 2+1,none⟩→W.cell? p=some v
 fz:∀p v,W0.cell? p=some v→W0.frozen? p=false→W.frozen? p=false
 there:∀p v,W0.cell? p=some v→(W.cell? p).isSome=true
theorem But2.refl (W0:World) (ab k:Nat):But2 W0 ab k W0:=⟨Nat.le_refl _,fun _ _ h _ _=>h,fun _ _ _ h=>h,fun _ _ h=>qA h⟩
theorem But2.call {W0 W w1:World} {ab k:Nat} (h:But2 W0 ab k W) (hB:Below W.heap.size W w1):But2 W0 ab k w1 :=
 ⟨Nat.le_trans h.size hB.size,fun p v a b c=>qb _ hB (h.cell p v a b c),fun p v a b=>by
   obtain ⟨u,hu⟩:=Option.isSome_iff_exists.1 (h.there p v a)
   exact qd _ hB hu (h.fz p v a b),fun p v a=>by
   obtain ⟨u,hu⟩:=Option.isSome_iff_exists.1 (h.there p v a)
   exact qA (qb _ hB hu)⟩
theorem But2.put {W0 W:World} {ab k:Nat} (u v:Value) (h:But2 W0 ab k W):But2 W0 ab k ((W.setCell ⟨ab,k * 2,none⟩ u).setCell ⟨ab,k * 2+1,none⟩ v) :=
 ⟨by simpa using h.size,fun p x a b c=>qc (Ne.symm c) (qc (Ne.symm b) (h.cell p x a b c)),fun p x a b=>by simpa using h.fz p x a b,fun p x a=>qB (qB (h.there p x a))⟩
abbrev Za (w W0:World) (hb xb ab T:Nat) (x:Int×Int) (k:Nat) (W:World):Prop :=
 W.cell? ⟨xb,0,none⟩=some (.int .i64 x.1)∧W.cell? ⟨xb,1,none⟩=some (.int .i64 x.2)∧W.cell? ⟨hb,1,none⟩=some (.int .i64 T)∧W.cell? ⟨ab,k * 2,none⟩=some (atD W ⟨ab,k * 2,none⟩)∧W.cell? ⟨ab,k * 2+1,none⟩=some (atD W ⟨ab,k * 2+1,none⟩) ∧
  W.frozen? ⟨ab,k * 2,none⟩=false∧W.frozen? ⟨ab,k * 2+1,none⟩=false∧Below w.heap.size w W∧But2 W0 ab k W
theorem Za.call {w W0 W w1:World} {hb xb ab T:Nat} {x:Int×Int} {k:Nat} (h:Za w W0 hb xb ab T x k W) (hB:Below W.heap.size W w1):Za w W0 hb xb ab T x k w1:=by
 obtain ⟨a,b,c,d,e,f,g,i,j⟩:=h
 exact ⟨qb _ hB a,qb _ hB b,qb _ hB c,qW (qA (qb _ hB d)),qW (qA (qb _ hB e)),qd _ hB d f,qd _ hB e g,bcl i hB,j.call hB⟩
theorem Za.put {w W0 W:World} {hb xb ab T:Nat} {x:Int×Int} {k:Nat} (u v:Value) (h:Za w W0 hb xb ab T x k W) (h1:ab≠xb) (h2:ab≠hb) (h3:w.heap.size≤ab):Za w W0 hb xb ab T x k ((W.setCell ⟨ab,k * 2,none⟩ u).setCell ⟨ab,k * 2+1,none⟩ v):=by
 obtain ⟨a,b,c,d,e,f,g,i,j⟩:=h
 have n1:∀p q,(⟨ab,p,none⟩:Addr)≠⟨xb,q,none⟩:=fun p q h=>h1 (congrArg Addr.block h)
 have n2:∀p q,(⟨ab,p,none⟩:Addr)≠⟨hb,q,none⟩:=fun p q h=>h2 (congrArg Addr.block h)
 exact ⟨qc (n1 _ _) (qc (n1 _ _) a),qc (n1 _ _) (qc (n1 _ _) b),qc (n2 _ _) (qc (n2 _ _) c),qW (qB (qB (qA d))),qW (qB (qB (qA e))),by simpa using f,by simpa using g,(i.setCell h3 _).setCell h3 _,j.put u v⟩
set_option maxHeartbeats 4000000 in
set_option maxRecDepth 100000 in
theorem qfh (B:Bk) (i:Nat) (g:Grp) (hg:B.gs[i]? = some g) (w:World) (h:BookAt w B) (hG:GoodGrp B.hours g) (hh:B.hours≤3) :
 Calls qg 52 #[bv B,.int .i64 i] w fun e w'=>e=.returned (hv fun j=>zH g j 3)∧Below w.heap.size w w':=by
 obtain ⟨hi,rfl⟩:=List.getElem?_eq_some_iff.1 hg
 obtain ⟨b,o,hga,hc⟩:=h.row (by omega)
 obtain ⟨c0,c1,c2⟩:=hc i _ hg
 have hlen:=hG.len
 generalize hgg:B.gs[i]=g at *
 have hm:g∈B.gs:=List.mem_of_getElem? hg
 have HF:=Lib.hid (h.traf g hm)
 have HT:=Lib.hid hG.traf
 obtain ⟨T,hT⟩:=Int.eq_ofNat_of_zero_le hG.tr0
 have hT7:T≤7:=by have:=hG.tr7;omega
 rw [hT] at c1
 have HTT:=Lib.hid hT
 obtain ⟨lim,gr,hr,gs,ga,gc⟩:=B
 simp only at hga hlen hh hi
 subst hga
 simp only [bv]
 have hlb:b < w.heap.size:=lt_of_cell c0
 have hlb2:b < w.heap.size+1:=by omega
 have hlb3:b < w.heap.size+1+1:=by omega
 have hl3:g.traffic.length≤3:=by omega
 have HO:=Lib.hid fun (j k:Nat) (h:j≠k)=>qbK (g:=g) h
 have HH:=Lib.hid fun (k:Nat) (x:Int×Int) (h:g.traffic[k]? = some x)=>qdB h
 have HE:=Lib.hid fun (j:Nat)=>qfg (g:=g) (j:=j) hl3
 have HZ:Hid (∀j,zH g j 0=(0,0)):=Lib.hid fun j=>by simp [zH]
 rw [hT] at HH
 obtain ⟨N,hN⟩:∃N,N=zH g:=⟨_,rfl⟩
 simp only [← hN] at HO HH HE HZ ⊢
 clear hN hT hG hc hg hgg hm h
 go_enter s52,ntmps52
 go_wp2
 obtain ⟨W,hW⟩:∃W,(((w.alloc (Obj.cells #[.int .i64 lim.1,.int .i64 lim.2,.int .i64 gr,.int .i64 hr,.slice (some ⟨b,o,none⟩) gs.length gc] 75)).alloc (Obj.cells #[.int .i64 0,.int .i64 0,.int .i64 0,.int .i64 0,.int .i64 0,.int .i64 0] 81)).alloc (Obj.cells #[.int .i64 0,.int .i64 0,.int .i64 0,.int .i64 0,.int .i64 0,.int .i64 0] 81)).alloc (Obj.cells #[.string g.name,.int .i64 T,.slice g.ta g.traffic.length g.tc] 36)=W:=⟨_,rfl⟩
 have hRes:ArrAt W (w.heap.size+1) (fun _=>(0,0)):=fun j hj=>by
  subst hW
  rcases (show j=0∨j=1∨j=2 by omega) with rfl | rfl | rfl
  ·exact ⟨by go_cell,by go_cell,by go_cell,by go_cell⟩
  ·exact ⟨by go_cell,by go_cell,by go_cell,by go_cell⟩
  ·exact ⟨by go_cell,by go_cell,by go_cell,by go_cell⟩
 have t1:W.cell? ⟨w.heap.size+1+1+1,1,none⟩=some (.int .i64 T):=by subst hW;go_cell
 have hArr:ArrAt W (w.heap.size+1+1) (fun j=>N j 0):=fun j hj=>by
  simp only [HZ.out]
  subst hW
  rcases (show j=0∨j=1∨j=2 by omega) with rfl | rfl | rfl
  ·exact ⟨by go_cell,by go_cell,by go_cell,by go_cell⟩
  ·exact ⟨by go_cell,by go_cell,by go_cell,by go_cell⟩
  ·exact ⟨by go_cell,by go_cell,by go_cell,by go_cell⟩
 have hBW:Below w.heap.size w W:=by subst hW;go_grown
 have hsW:W.heap.size=w.heap.size+4:=by subst hW;simp
 rw [hW]
 clear hW
 go_loopw [18] (fun i wr=>∃k:Nat,i=.int .i64 k∧k≤g.traffic.length∧Below w.heap.size w wr∧w.heap.size+4≤wr.heap.size∧wr.cell? ⟨w.heap.size+1+1+1,1,none⟩=some (.int .i64 T)∧Hid (ArrAt wr (w.heap.size+1+1) (fun j=>N j k))∧Hid (ArrAt wr (w.heap.size+1) (fun _=>(0,0)))) (fun i _=>g.traffic.length - (intOf i).toNat)
 case atStart=>exact ⟨0,rfl,by omega,hBW,by omega,t1,Lib.hid hArr,Lib.hid hRes⟩
 case round =>
  clear t1 hArr hRes hBW hsW
  obtain ⟨k,rfl,hk,hBr,hsz,t1,HArr,HRes⟩:=hrel
  have s1:w.heap.size+1 < wr.heap.size:=by omega
  have s2:w.heap.size+1+1 < wr.heap.size:=by omega
  have s3:w.heap.size+1+1+1 < wr.heap.size:=by omega
  by_cases hlt:k < g.traffic.length
  ·obtain ⟨x,hx⟩:∃x,g.traffic[k]? = some x:=⟨g.traffic[k],by simp [hlt]⟩
   have hx2:=HT.out x (List.mem_of_getElem? hx)
   obtain ⟨tb,t0,hta,hpa⟩:=HF.out (by omega)
   have hta':=hta
   obtain ⟨e0,e1⟩:=hpa k x hx
   have e0:=qb _ hBr e0
   have e1:=qb _ hBr e1
   obtain ⟨a0,a1,a2,a3⟩:=HArr.out k (by omega)
   obtain ⟨k1,k2,k3,k4⟩:=jq hx2.1.1 hx2.1.2 hx2.2.1 hx2.2.2
   have hof:=fun W=>Xb x W hx2.1.1 (by have:=hx2.2.1;omega) (by have:=hx2.1.2;omega) (by have:=hx2.2.2;omega)
   have hlo:=fun W=>Qv T (low x.1 x.2) k1 k2 k3 k4 hT7 W
   have hth:=HH.out k x hx
   rw [Int.toNat_natCast] at hth
   generalize qN (low x.1 x.2) T=r at *
   generalize low x.1 x.2=y at *
   have HN:=Lib.hid hth
   have hkk:(k:Int) < 3:=by omega
   have hk0:(0:Int)≤(k:Int):=Int.natCast_nonneg k
   simp only [fv] at hof hlo
   rw [hta]
   clear hth hx hx2 hpa k1 k2 k3 k4 hta
   have hX:Za w (wr.alloc (.cells #[.int .i64 x.1,.int .i64 x.2] 23)).drew (w.heap.size+1+1+1) wr.heap.size (w.heap.size+1+1) T x k (wr.alloc (.cells #[.int .i64 x.1,.int .i64 x.2] 23)).drew :=
    ⟨by go_cell,by go_cell,qi t1,qW (qA (qi a0)),qW (qA (qi a1)),qo a0 a2,qo a1 a3,(hBr.alloc (by omega) _).drew,.refl _ _ _⟩
   go_wp2
   go_region_held3 (fun w'=>w'.cell? ⟨wr.heap.size,0,none⟩=some (.int .i64 x.1)∧w'.cell? ⟨wr.heap.size,1,none⟩=some (.int .i64 x.2)∧w'.cell? ⟨w.heap.size+1+1+1,1,none⟩=some (.int .i64 T)∧w'.cell? ⟨w.heap.size+1+1,k * 2,none⟩=some (atD w' ⟨w.heap.size+1+1,k * 2,none⟩)∧w'.cell? ⟨w.heap.size+1+1,k * 2+1,none⟩=some (atD w' ⟨w.heap.size+1+1,k * 2+1,none⟩)∧w'.frozen? ⟨w.heap.size+1+1,k * 2,none⟩=false∧w'.frozen? ⟨w.heap.size+1+1,k * 2+1,none⟩=false∧Below w.heap.size w w'∧But2 (wr.alloc (.cells #[.int .i64 x.1,.int .i64 x.2] 23)).drew (w.heap.size+1+1) k w')
    (first | exact hX | ((with_reducible refine Za.call ?_ hB);assumption) | ((with_reducible refine Za.put _ _ ?_ ?_ ?_ ?_);assumption;omega;omega;omega))
    (first | (go_at_call 86;refine (hof _).mono ?_;rintro e w1 ⟨rfl,hB⟩) | (go_at_call 57;refine (hlo _).mono ?_;rintro e w1 ⟨rfl,hB⟩))
   rename_i hH
   obtain ⟨_,_,_,q0,q1,q2,q3,q4,q5⟩:=hH
   go_wp2
   go_roundw
   case rel =>
    have hcells:∀p v,wr.cell? p=some v→p≠⟨w.heap.size+1+1,k * 2,none⟩→p≠⟨w.heap.size+1+1,k * 2+1,none⟩→_:=fun p v hp h1 h2=>q5.cell p v (qi hp) h1 h2
    refine ⟨k+1,rfl,by omega,q4,?_,hcells _ _ t1 (by simp) (by simp),Lib.hid fun j hj=>?_,Lib.hid fun j hj=>?_⟩
    ·have:=q5.size;simp at this ⊢;omega
    ·obtain ⟨b0,b1,b2,b3⟩:=HArr.out j hj
     by_cases e:j=k
     ·subst e
      simp only [HN.out]
      refine ⟨qc (by simp) (qV (zn (zn (qA q0)))),qV (zn (qA q1)),q2,q3⟩
     ·simp only [HO.out j k e]
      exact ⟨hcells _ _ b0 (by simp <;> omega) (by simp <;> omega),hcells _ _ b1 (by simp <;> omega) (by simp <;> omega),q5.fz _ _ (qi b0) (qo b0 b2),q5.fz _ _ (qi b1) (qo b1 b3)⟩
    ·obtain ⟨b0,b1,b2,b3⟩:=HRes.out j hj
     exact ⟨hcells _ _ b0 (by simp) (by simp),hcells _ _ b1 (by simp) (by simp),q5.fz _ _ (qi b0) (qo b0 b2),q5.fz _ _ (qi b1) (qo b1 b3)⟩
   case measure=>simp [intOf];omega
  ·obtain rfl:k=g.traffic.length:=by omega
   have e0:=(HArr.out 0 (by omega)).1
   have e1:=(HArr.out 0 (by omega)).2.1
   have e2:=(HArr.out 1 (by omega)).1
   have e3:=(HArr.out 1 (by omega)).2.1
   have e4:=(HArr.out 2 (by omega)).1
   have e5:=(HArr.out 2 (by omega)).2.1
   obtain ⟨r0,r1,f0,f1⟩:=HRes.out 0 (by omega)
   obtain ⟨r2,r3,f2,f3⟩:=HRes.out 1 (by omega)
   obtain ⟨r4,r5,f4,f5⟩:=HRes.out 2 (by omega)
   simp only [Nat.zero_mul,Nat.one_mul,Nat.reduceMul,Nat.reduceAdd,Nat.zero_add] at e0 e1 e2 e3 e4 e5 r0 r1 r2 r3 r4 r5 f0 f1 f2 f3 f4 f5
   have HR:Hid (hv (fun j=>N j 3)=.agg #[.int .i64 (N 0 g.traffic.length).1,.int .i64 (N 0 g.traffic.length).2,.int .i64 (N 1 g.traffic.length).1,.int .i64 (N 1 g.traffic.length).2,.int .i64 (N 2 g.traffic.length).1,.int .i64 (N 2 g.traffic.length).2]):=Lib.hid (by simp only [hv,HE.out])
   go_wp2
   exact ret_c6 results52 qgr qeb rfl r0 r1 r2 r3 r4 r5 ⟨by rw [HR.out],Below.set6 hBr (Nat.le_succ _)⟩
end Go.Proofs.Tryz
