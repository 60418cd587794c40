/-
  Lemmas about the program and the machine (Q43 to AP), upon which the last text of this claim rests; no condition.
-/
import Derived.StillTail
import Derived.Laws.AppendOwnNone
import Derived.Test.YtjkenojgabamiaaGreatDoorD09
set_option linter.unusedSimpArgs false
set_option linter.unusedVariables false
namespace Go.Proofs.Tryz
open Go Go.Load Go.LoadR Go.RowKit Go.Maps
def xO (l:Nat) (k:Nat):List Int:=((List.range k).filter fun i=>jQ (l:Int) i).map fun (i:Nat)=>(i:Int)
def jW (l:Nat):List Int:=xO l 8
theorem ZK (l k:Nat):xO l (k+1)=xO l k ++ (if jQ (l:Int) k then [(k:Int)] else []):=by
 unfold xO
 rw [List.range_succ,List.filter_append,List.map_append]
 congr 1
 cases h:jQ (l:Int) k <;> simp [h]
theorem YM (l k:Nat):(xO l k).length≤k:=by
 unfold xO
 rw [List.length_map]
 exact Nat.le_trans (List.length_filter_le _ _) (by simp)
theorem qcH {l k j:Nat} (h:(l:Int) / 2 ^ k=0) (hj:k≤j):jQ (l:Int) j=false:=by
 unfold jQ
 have hz:(l:Int) / 2 ^ j=0:=by
  obtain ⟨d,rfl⟩:=Nat.exists_eq_add_of_le hj
  rw [Int.pow_add,← Int.ediv_ediv_of_nonneg (Int.pow_nonneg (by decide)),h]
  simp
 rw [hz]
 decide
theorem qbA {l k:Nat} (h:(l:Int) / 2 ^ k=0) (hk:k≤8):xO l k=jW l:=by
 unfold jW
 obtain ⟨d,hd⟩:=Nat.exists_eq_add_of_le hk
 have key:∀d,xO l (k+d)=xO l k:=by
  intro d
  induction d with
  | zero=>rfl
  | succ d ih=>rw [← Nat.add_assoc,ZK,ih,qcH h (by omega)];simp
 rw [hd,key]
theorem shr_end {l:Nat} (h:l < 256):(l:Int) / 2 ^ 8=0:=by
 have:(2:Int) ^ 8=256:=by decide
 rw [this];omega
theorem shr_pos {l k:Nat} (h:¬ (l:Int) / 2 ^ k=0):0 < (l:Int) / 2 ^ k:=by
 have h0:0≤(l:Int) / 2 ^ k:=Int.ediv_nonneg (Int.natCast_nonneg l) (Int.pow_nonneg (by decide))
 omega
set_option maxHeartbeats 4000000 in
set_option maxRecDepth 100000 in
theorem qbV (l:Nat) (hl:l < 256) (w:World):Calls qj 110 #[.int .u64 l] w fun e w'=>∃a c,e=.returned (.slice a (jW l).length c)∧(jW l).length≤c∧qh w' 1 encI a (jW l)∧(∀p,a=some p→w.heap.size≤p.block)∧Below w.heap.size w w':=by
 obtain ⟨i0,hi,hz0,hz1,hz2⟩:=info_parts Yd
 have hlz:(0:Int)≤(l:Int)∧(l:Int) < 256:=⟨by omega,by omega⟩
 have HL:=Lib.hid hlz
 have HL2:=Lib.hid hl
 clear hlz hl
 go_enter (sf 110 f110),ntmps110
 go_wp2
 go_loopw [4,3] (fun i u wr=>∃(k:Nat) (q:Value),i=.int .i64 k∧q=u∧k≤8∧Hid (Below w.heap.size w wr)∧Hid (wr.ownsRow w.heap.size 3 1 q (xO l k).length ((xO l k).map (.int .i64)))) (fun i _ _=>9 - (intOf i).toNat)
 case atStart=>exact ⟨0,_,rfl,rfl,by omega,Lib.hid (Below.refl _ _),Lib.hid (World.ownsRow_nil _ _ _ _)⟩
 case round =>
  obtain ⟨k,q,rfl,rfl,hk,HB,HO⟩:=hrel
  have hk0:(0:Int)≤(k:Int):=Int.natCast_nonneg k
  have hmin:min k 64=k:=by omega
  by_cases hz:(l:Int) / 2 ^ k=0
  ·have hE:=qbA hz hk
   have ho:=HO.out
   rw [hE] at ho
   obtain ⟨a,c,rfl,hlc,hrow⟩:=Qa ho
   have hfr:∀p,a=some p→w.heap.size≤p.block:=fun p e=>by subst e;exact (ho.lt p.block rfl).1
   have HF:=Lib.hid (And.intro hlc (And.intro hrow hfr))
   clear ho hlc hrow hfr hE
   go_wp2
   go_ret
   exact ⟨_,_,rfl,HF.out.1,HF.out.2.1,HF.out.2.2,HB.out⟩
  ·have hp:=shr_pos hz
   have hk8:k < 8:=by
    by_cases e:k=8
    ·subst e;exact absurd (shr_end HL2.out) hz
    ·omega
   have hbit:=qaH HL.out (k:=k) (by omega)
   have hbit2:=hbit
   rw [Nat.min_eq_left (show k≤64 by omega)] at hbit2
   have hwk:wrap64 ((k:Int)+1)=(k:Int)+1:=by unfold wrap64;omega
   have hbl:=YM l k
   have hs:=ZK l k
   have HS:=Lib.hid hs
   clear hs
   cases hb:jQ (l:Int) k with
   | true =>
     rw [hb] at hbit hbit2 HS
     obtain ⟨L,hL⟩:∃L,xO l k=L:=⟨_,rfl⟩
     rw [hL] at HS HO hbl
     clear hb hL
     go_wp2_with (at_builtin;refine wpList_append_own_at _ rfl (.tmp 16) (.tmp 18) 31 rfl w.heap.size 3 i0 (.int .i64 0) 1 8 ((qy _).trans Tryz.underlying31) hi hz0 hz1 hz2 rfl (by decide) _ _ _ rfl (HO.out.alloc _) ⟨wr.heap.size,0,none⟩ 1 1 [.int .i64 (k:Int)] rfl rfl (cell_one_new _ _ _) (Zz (k:Int)) (by unfold maxLen;omega) (by omega) (by have:=HB.out.size;simp;omega) ?_;intro v1 w3 n1 g1 nil1 at1)
     have g2:(wr.alloc (.cells #[.int .i64 (k:Int)] 3)).grownBy w3 q.ownBlock:=g1
     have hB3:Below w.heap.size w w3:=HB.out.trans (((Mod.below ((Below.refl _ wr).alloc (Nat.le_refl _) _)).trans (Mod.grown (S:=fun b=>q.ownBlock=some b) g2 (fun b e=>e))).keep HB.out.size (fun b hb=>(HO.out.lt b hb).1))
     go_roundw
     case rel =>
      refine ⟨k+1,v1,rfl,rfl,by omega,Lib.hid hB3,Lib.hid ?_⟩
      rw [HS.out]
      simp only [if_true,List.length_append,List.length_cons,List.length_nil,Nat.zero_add,List.map_append,List.map_cons,List.map_nil]
      exact n1
     case measure=>simp [intOf];omega
   | false =>
     rw [hb] at hbit hbit2 HS
     clear hb
     go_wp2
     go_roundw
     case rel =>
      refine ⟨k+1,q,rfl,rfl,by omega,HB,Lib.hid ?_⟩
      rw [HS.out]
      simp only [Bool.false_eq_true,if_false,List.append_nil]
      exact HO.out
     case measure=>simp [intOf];omega
def qcz (x y:Int):Int:=if x < y then -1 else if y < x then 1 else 0
def cmpL:List Int→List Int→Int
 | [],[]=>0
 | [],_ :: _=>-1
 | _ :: _,[]=>1
 | x :: xs,y :: ys=>if qcz x y=0 then cmpL xs ys else qcz x y
def fewB (a b:List Int):Bool:=if a.length=b.length then decide (cmpL a b < 0) else decide (a.length < b.length)
set_option maxRecDepth 100000 in
theorem qdw (x:Int) (w:World):Calls qj 144 #[.int .i64 x] w fun e w'=>e=.returned (.bool false)∧w'=w:=by
 have hx:(x != x)=false:=by simp
 go_enter (sf 144 f144),ntmps144
 go_wp2
 go_ret
 exact ⟨rfl,rfl⟩
set_option maxHeartbeats 2000000 in
set_option maxRecDepth 100000 in
theorem cmp_any (x y:Int) (w:World):Calls qj 138 #[.int .i64 x,.int .i64 y] w fun e w'=>e=.returned (.int .i64 (qcz x y))∧w'=w:=by
 have hn:=fun z W=>qdw z W
 have HN:=Lib.hid hn
 clear hn
 by_cases h1:x < y
 ·have hc:qcz x y=-1:=by unfold qcz;rw [if_pos h1]
  rw [hc]
  clear hc
  go_enter (sf 138 f138),ntmps138
  go_wp2_with (go_at_call 144;(with_reducible refine (HN.out _ _).mono ?_);rintro e w1 ⟨rfl,rfl⟩)
  go_ret
  exact ⟨rfl,rfl⟩
 ·by_cases h2:y < x
  ·have hc:qcz x y=1:=by unfold qcz;rw [if_neg h1,if_pos h2]
   rw [hc]
   clear hc
   have h1:y≤x:=by omega
   go_enter (sf 138 f138),ntmps138
   go_wp2_with (go_at_call 144;(with_reducible refine (HN.out _ _).mono ?_);rintro e w1 ⟨rfl,rfl⟩)
   go_ret
   exact ⟨rfl,rfl⟩
  ·obtain rfl:x=y:=by omega
   have hc:qcz x x=0:=by unfold qcz;rw [if_neg h1,if_neg h1]
   rw [hc]
   clear hc h1 h2
   go_enter (sf 138 f138),ntmps138
   go_wp2_with (go_at_call 144;(with_reducible refine (HN.out _ _).mono ?_);rintro e w1 ⟨rfl,rfl⟩)
   go_ret
   exact ⟨rfl,rfl⟩
theorem qcQ {l m:List Int} {k:Nat} {x y:Int} (hx:l[k]? = some x) (hy:m[k]? = some y):cmpL (l.drop k) (m.drop k)=if qcz x y=0 then cmpL (l.drop (k+1)) (m.drop (k+1)) else qcz x y:=by
 obtain ⟨h1,rfl⟩:=List.getElem?_eq_some_iff.1 hx
 obtain ⟨h2,rfl⟩:=List.getElem?_eq_some_iff.1 hy
 rw [List.drop_eq_getElem_cons h1,List.drop_eq_getElem_cons h2,cmpL]
theorem qcO {l m:List Int} {k:Nat} (h1:k < l.length) (h2:m.length≤k):cmpL (l.drop k) (m.drop k)=1:=by
 rw [List.drop_eq_getElem_cons h1,List.drop_eq_nil_of_le h2,cmpL]
theorem qbD {l m:List Int} (h2:l.length < m.length):cmpL (l.drop l.length) (m.drop l.length)=-1:=by
 rw [List.drop_eq_nil_of_le (Nat.le_refl _),List.drop_eq_getElem_cons h2,cmpL]
theorem qcP {l m:List Int} (h2:m.length≤l.length):cmpL (l.drop l.length) (m.drop l.length)=0:=by
 rw [List.drop_eq_nil_of_le (Nat.le_refl _),List.drop_eq_nil_of_le h2,cmpL]
set_option maxHeartbeats 2000000 in
set_option maxRecDepth 100000 in
theorem JO (l m:List Int) (a b:Option Addr) (c d:Nat) (hll:l.length≤1000) (hml:m.length≤1000) (hlc:l.length≤c) (hmd:m.length≤d) (w:World) (hl:qh w 1 encI a l) (hm:qh w 1 encI b m) :
 Calls qj 126 #[.slice a l.length c,.slice b m.length d] w fun e w'=>e=.returned (.int .i64 (cmpL l m))∧w'=w:=by
 have hn:=fun x y W=>cmp_any x y W
 have HN:=Lib.hid hn
 clear hn
 obtain ⟨R,hR⟩:∃R,cmpL l m=R:=⟨_,rfl⟩
 rw [hR]
 have HR:Hid (cmpL (l.drop 0) (m.drop 0)=R):=Lib.hid hR
 have HL:=Lib.hid (And.intro hl hm)
 clear hR hl hm
 go_enter (sf 126 f126),ntmps126
 go_wp2
 go_loopw [11,5,6,7,8] (fun i x1 x2 x3 x4 wr=>∃(k:Nat) (y1 y2 y3 y4:Value),i=.int .i64 k∧x1=y1∧x2=y2∧x3=y3∧x4=y4∧k≤l.length∧wr=w∧Hid (cmpL (l.drop k) (m.drop k)=R)) (fun i _ _ _ _ _=>l.length - (intOf i).toNat)
 case atStart=>exact ⟨0,_,_,_,_,rfl,rfl,rfl,rfl,rfl,by omega,rfl,HR⟩
 case round =>
  obtain ⟨k,y1,y2,y3,y4,rfl,rfl,rfl,rfl,rfl,hk,rfl,HE⟩:=hrel
  have hE:=HE.out
  by_cases hlt:k < l.length
  ·obtain ⟨x,hx⟩:∃x,l[k]? = some x:=⟨l[k],by simp [hlt]⟩
   obtain ⟨b1,o1,rfl,hP⟩:=HL.out.1 (by omega)
   have c0:=hP k x hx 0 _ rfl
   simp only [Nat.mul_one,Nat.add_zero] at c0
   have hkc:(k:Int)≤(c:Int):=by omega
   by_cases hmk:m.length≤k
   ·rw [qcO hlt hmk] at hE
    subst hE
    clear hP hx HE
    have hmk2:(m.length:Int)≤(k:Int):=by omega
    go_wp2
    go_ret
    exact ⟨rfl,rfl⟩
   ·obtain ⟨y,hy⟩:∃y,m[k]? = some y:=⟨m[k]'(by omega),List.getElem?_eq_getElem _⟩
    obtain ⟨b2,o2,rfl,hP2⟩:=HL.out.2 (by omega)
    have d0:=hP2 k y hy 0 _ rfl
    simp only [Nat.mul_one,Nat.add_zero] at d0
    have hkd:(k:Int)≤(d:Int):=by omega
    have hkm:(k:Int) < (m.length:Int):=by omega
    have hmk2:¬ (m.length:Int)≤(k:Int):=by omega
    rw [qcQ hx hy] at hE
    clear hP hP2 hx hy HE
    obtain ⟨v,hv⟩:∃v,qcz x y=v:=⟨_,rfl⟩
    have hcm:=HN.out x y
    rw [hv] at hE hcm
    have HC:=Lib.hid hcm
    clear hcm hv
    by_cases hv0:v=0
    ·subst hv0
     rw [if_pos rfl] at hE
     have HE:=Lib.hid hE
     clear hE
     go_wp2_with (go_at_call 138;(with_reducible refine (HC.out _).mono ?_);rintro e w1 ⟨rfl,rfl⟩)
     go_roundw
     case rel=>exact ⟨k+1,_,_,_,_,rfl,rfl,rfl,rfl,rfl,by omega,(by first | rfl | trivial),HE⟩
     case measure=>simp [intOf];omega
    ·rw [if_neg hv0] at hE
     subst hE
     go_wp2_with (go_at_call 138;(with_reducible refine (HC.out _).mono ?_);rintro e w1 ⟨rfl,rfl⟩)
     go_ret
     exact ⟨rfl,rfl⟩
  ·obtain rfl:k=l.length:=by omega
   by_cases hmk:l.length < m.length
   ·rw [qbD hmk] at hE
    subst hE
    clear HE
    have hmk2:(l.length:Int) < (m.length:Int):=by omega
    go_wp2
    go_ret
    exact ⟨rfl,rfl⟩
   ·rw [qcP (by omega)] at hE
    subst hE
    clear HE
    have hmk2:(m.length:Int)≤(l.length:Int):=by omega
    have hmk3:¬ (l.length:Int) < (m.length:Int):=by omega
    go_wp2
    go_ret
    exact ⟨rfl,rfl⟩
set_option maxHeartbeats 2000000 in
set_option maxRecDepth 100000 in
theorem qdd (l m:List Int) (a b:Option Addr) (c d:Nat) (hll:l.length≤1000) (hml:m.length≤1000) (hlc:l.length≤c) (hmd:m.length≤d) (w:World) (hl:qh w 1 encI a l) (hm:qh w 1 encI b m) :
 Calls qj 111 #[.slice a l.length c,.slice b m.length d] w fun e w'=>e=.returned (.bool (fewB l m))∧w'=w:=by
 have hcm:=JO l m a b c d hll hml hlc hmd w hl hm
 unfold fewB
 by_cases he:l.length=m.length
 ·rw [if_pos he]
  obtain ⟨v,hv⟩:∃v,cmpL l m=v:=⟨_,rfl⟩
  rw [hv] at hcm ⊢
  have hne:(((m.length:Nat):Int) != ((m.length:Nat):Int))=false:=by simp
  rw [he] at hcm ⊢
  clear hl hm hv he
  go_enter (sf 111 f111),ntmps111
  go_wp2_with (go_at_call 126;(with_reducible refine hcm.mono ?_);rintro e w1 ⟨rfl,rfl⟩)
  go_ret
  exact ⟨rfl,rfl⟩
 ·rw [if_neg he]
  have hne:(((l.length:Nat):Int) != ((m.length:Nat):Int))=true:=by simp;omega
  clear hl hm hcm
  by_cases h0:l.length < m.length
  ·have hd:decide (l.length < m.length)=true:=by simpa using h0
   have h2:(l.length:Int) < (m.length:Int):=by omega
   rw [hd]
   clear hd
   go_enter (sf 111 f111),ntmps111
   go_wp2
   go_ret
   exact ⟨rfl,rfl⟩
  ·have hd:decide (l.length < m.length)=false:=by simpa using h0
   have h2:(m.length:Int)≤(l.length:Int):=by omega
   have h3:¬ (l.length:Int) < (m.length:Int):=by omega
   rw [hd]
   clear hd
   go_enter (sf 111 f111),ntmps111
   go_wp2
   go_ret
   exact ⟨rfl,rfl⟩
end Go.Proofs.Tryz
namespace Go.Proofs.Tryz
open Go Go.Load Go.LoadR Go.RowKit
theorem qaX {l:List Int} {n:Int}:hasI l n=true↔n∈l.reverse:=by
 unfold hasI
 rw [List.any_eq_true,List.mem_reverse]
 exact ⟨fun ⟨x,hx,h⟩=>by rw [beq_iff_eq] at h;exact h▸hx,fun h=>⟨n,h,by simp⟩⟩
theorem wrap_small {n:Int} (h1:-1000≤n) (h2:n≤1000):wrap64 n=n:=by unfold wrap64;omega
set_option maxHeartbeats 4000000 in
set_option maxRecDepth 100000 in
theorem rway_any (D:DayM) (o:OrdM) (l:List Int) (a:Option Addr) (c:Nat) (w:World) (h:DayAt w D) (hs:DaySm D) (hsmall:∀g∈D.gs,(0≤g.one∧g.one≤100)∧(0≤g.two∧g.two≤100)) (hl:l.length≤20∧l.length≤c) (hA:qh w 1 encI a l) :
 Calls qj 99 #[dv D,.int .i64 o.fr,.int .i64 o.toT,.slice a l.length c] w fun e w'=>e=.returned (.int .i64 (qaA D o l))∧Below w.heap.size w w':=by
 obtain ⟨i0,hi,hz0,hz1,hz2⟩:=info_parts Yd
 have hgs:=h.gs
 have hsm:=hs.gs
 obtain ⟨R,hR⟩:∃R,qaA D o l=R:=⟨_,rfl⟩
 rw [hR]
 unfold qaA at hR
 unfold dv
 clear h hs
 obtain ⟨ofr,ow,ows,oa2,oc2⟩:=o
 have hdr:=fun t ps k x (hx:l[k]? = some x)=>YZ D ow t ps hx
 have hnl:∀t ps q,q.length=0→YD D ow t ps q=if t=ow then 0 else 9:=fun t ps q h=>by cases q with | nil=>rfl | cons _ _=>cases h
 generalize YD D ow=WG at *
 obtain ⟨ts,ta,tc,gs,ga,gc,os,oa,oc,hs,ha,hc,cs,ca,cc⟩:=D
 simp only at *
 generalize Value.slice ta ts.length tc=x0
 generalize Value.slice oa os.length oc=x2
 generalize Value.slice ha hs.length hc=x3
 generalize Value.slice ca cs.length cc=x4
 have hwi:=YF l.length 1 3
 obtain ⟨r,hr⟩:∃r,btw l.length 1 3=r:=⟨_,rfl⟩
 rw [hr] at hwi hR
 cases r with
 | false =>
   simp at hR
   subst hR
   clear hgs hA hdr hnl
   go_enter (sf 99 f99),ntmps99
   go_wp2_with (go_at_call 59;(with_reducible refine (hwi _).mono ?_);rintro e w1 ⟨rfl,rfl⟩)
   go_ret
   exact ⟨rfl,by go_grown⟩
 | true =>
   simp at hR
   have hl3:=(zM.1 hr).2
   have HR:=Lib.hid hR
   have HT:=Lib.hid hgs
   have HA:=Lib.hid hA
   have HD:=Lib.hid hdr
   have HN:=Lib.hid hnl
   have HS:=Lib.hid hsmall
   clear hR hgs hA hr hdr hnl hsmall
   go_enter (sf 99 f99),ntmps99
   go_upto_region 3 with (go_at_call 59;(with_reducible refine (hwi _).mono ?_);rintro e w1 ⟨rfl,rfl⟩)
   obtain ⟨W,hW⟩:∃W,w.alloc (Obj.cells #[x0,.slice ga gs.length gc,x2,x3,x4] 28)=W:=⟨_,rfl⟩
   have k1:W.cell? ⟨w.heap.size,1,none⟩=some (.slice ga gs.length gc):=by subst hW;go_cell
   have hBW:Below w.heap.size w W:=by subst hW;go_grown
   have hzW:w.heap.size+1≤W.heap.size:=by subst hW;simp
   try rw [hW]
   clear hW
   obtain ⟨W1,hW1⟩:∃W1,W.alloc (Obj.cells #[.int .i64 ofr] 3)=W1:=⟨_,rfl⟩
   have hown:W1.ownsRow W.heap.size 3 1 (.slice (some ⟨W.heap.size,0,none⟩) 1 1) 1 [.int .i64 ofr]:=by subst hW1;exact ⟨by simp,.inr ⟨W.heap.size,1,#[.int .i64 ofr],rfl,Nat.le_refl _,heap_alloc_new W _,Nat.le_refl _,(by unfold maxLen;omega),rfl,(by first | rfl | simp)⟩⟩
   have hB1:Below W.heap.size W W1:=by subst hW1;go_grown
   have k1W:=Lib.hid k1
   clear k1
   have HO0:=Lib.hid hown
   clear hown
   go_upto_region 5 with fail
   try rw [hW1]
   clear hW1
   go_wp2
   go_loopw [11,10,9] (fun i q p wr=>∃(k:Nat) (t:Int) (PS:List Int) (v:Value),i=.int .i64 k∧q=.int .i64 t∧v=p∧k≤l.length∧Hid (PS.length=k+1)∧Hid (Below W.heap.size W wr)∧Hid (wr.ownsRow W.heap.size 3 1 v PS.length (PS.map (.int .i64)))∧Hid (WG t PS.reverse (l.drop k)=R)) (fun i _ _ _=>l.length - (intOf i).toNat)
   case atStart=>exact ⟨0,ofr,[ofr],_,rfl,rfl,rfl,by omega,Lib.hid rfl,Lib.hid hB1,HO0,HR⟩
   case round =>
    clear HO0 hB1
    obtain ⟨k,t,PS,v,rfl,rfl,rfl,hk,HPS,HB,HO,HE⟩:=hrel
    have k1:=qb _ HB.out k1W.out
    have hBw:=bcl hBW HB.out
    have hsz:=HB.out.size
    by_cases hlt:k < l.length
    ·obtain ⟨x,hx⟩:∃x,l[k]? = some x:=⟨l[k],by simp [hlt]⟩
     obtain ⟨ab,ao,rfl,hP⟩:=HA.out (by omega)
     have hkc:(k:Int)≤(c:Int):=by omega
     have hki:(k:Int) < (l.length:Int):=by omega
     have c0:=qb _ hBw (hP k x hx 0 _ rfl)
     simp only [Nat.mul_one,Nat.add_zero] at c0
     have hA:=HE.out
     rw [HD.out _ _ _ _ hx] at hA
     clear hP hx
     have hw2:=Qz x gs.length (by omega) (by omega)
     have hbt:=Lib.hid (@zM x 0 ((gs.length:Int) - 1))
     generalize btw x 0 ((gs.length:Int) - 1)=r1 at *
     cases r1 with
     | false =>
       have HA:=Lib.hid hA
       clear hA
       go_upto_region 8 with fail
       refine wp_region_held_drew (S:=(RH2 wr ⟨ab,ao+k,none⟩ ⟨w.heap.size,1,none⟩ (.int .i64 x) (.slice ga gs.length gc))) (by kernel_rfl) (by exact RHL.drew ⟨c0,k1,Below.refl _ _⟩) (fun hHeld=>?_)
       (refine tk 0 ?_;try simp only [zs,Act.put])
       (refine tk 1 ?_;try simp only [zs,Act.put])
       (refine tk 2 ?_;try simp only [zs,Act.put])
       (refine tk 3 ?_;try simp only [zs,Act.put])
       (refine tk 4 ?_;try simp only [zs,Act.put])
       (refine tk 5 ?_;try simp only [zs,Act.put])
       (refine tk 6 ?_;try simp only [zs,Act.put])
       refine wpAnyH_ready (rs:=[7]) (by kernel_rfl) (by simp) ?_;refine AllReadyH.cons rfl (fun K hK=>?_) AllReadyH.nil;go_simp;go_wp2_with (go_at_call 41;(with_reducible refine (hw2 _).mono ?_);rintro e w2 ⟨rfl,rfl⟩);refine hK.out _ _ (by exact hHeld) (fun hHeldN=>?_);clear hK K hHeld;have hHeld:=hHeldN;clear hHeldN;try simp only [zs,Act.put]
       (refine tk 8 ?_;try simp only [zs,Act.put])
       refine wpAnyH_done (by kernel_rfl) ?_ _;try simp only [zs,Act.put]
       have hB4:=RHL.bel hHeld
       clear hHeld
       go_wp2
       go_ret
       exact ⟨by have e:=HA.out;simp at e;rw [← e];rfl,bcl hBw hB4⟩
     | true =>
       obtain ⟨hx0,hx1⟩:=hbt.out.1 rfl
       obtain ⟨n,rfl⟩:=Int.eq_ofNat_of_zero_le hx0
       have hng:n < gs.length:=by omega
       obtain ⟨g,hx⟩:∃x,gs[n]? = some x:=⟨gs[n],by simp [hng]⟩
       obtain ⟨b,o,rfl,hP⟩:=HT.out (by omega)
       have d0:=qb _ hBw (hP n g hx 0 _ rfl)
       have d1:=qb _ hBw (hP n g hx 1 _ rfl)
       have d2:=qb _ hBw (hP n g hx 2 _ rfl)
       have d3:=qb _ hBw (hP n g hx 3 _ rfl)
       simp only [Nat.add_zero] at d0
       have hgc:(n:Int)≤(gc:Int):=by omega
       have hgi:(n:Int) < (gs.length:Int):=by omega
       have hgn0:(0:Int)≤(n:Int):=Int.natCast_nonneg n
       simp only [Bool.true_eq_false,if_false,Int.toNat_natCast,hx] at hA
       have hgb:=HS.out g (List.mem_of_getElem? hx)
       have HGB:=Lib.hid hgb
       clear hP hx hbt hgb
       obtain ⟨g1,g2,glo,ghi⟩:=g
       simp only at *
       have HA0:=Lib.hid hA
       clear hA
       have hS0:RH6 wr ⟨ab,ao+k,none⟩ ⟨w.heap.size,1,none⟩ ⟨b,o+n * 4,none⟩ ⟨b,o+n * 4+1,none⟩ ⟨b,o+n * 4+2,none⟩ ⟨b,o+n * 4+3,none⟩ (.int .i64 n) (.slice (some ⟨b,o,none⟩) gs.length gc) (.int .i64 g1) (.int .i64 g2) (.int .i64 glo) (.int .i64 ghi) wr:=⟨c0,k1,d0,d1,d2,d3,Below.refl _ _⟩
       go_upto_region 8 with fail
       refine wp_region_held_drew (S:=(RH6 wr ⟨ab,ao+k,none⟩ ⟨w.heap.size,1,none⟩ ⟨b,o+n * 4,none⟩ ⟨b,o+n * 4+1,none⟩ ⟨b,o+n * 4+2,none⟩ ⟨b,o+n * 4+3,none⟩ (.int .i64 n) (.slice (some ⟨b,o,none⟩) gs.length gc) (.int .i64 g1) (.int .i64 g2) (.int .i64 glo) (.int .i64 ghi))) (by kernel_rfl) (by exact RHL.drew hS0) (fun hHeld=>?_)
       (refine tk 0 ?_;try simp only [zs,Act.put])
       (refine tk 1 ?_;try simp only [zs,Act.put])
       (refine tk 2 ?_;try simp only [zs,Act.put])
       (refine tk 3 ?_;try simp only [zs,Act.put])
       (refine tk 4 ?_;try simp only [zs,Act.put])
       (refine tk 5 ?_;try simp only [zs,Act.put])
       (refine tk 6 ?_;try simp only [zs,Act.put])
       refine wpAnyH_ready (rs:=[7]) (by kernel_rfl) (by simp) ?_;refine AllReadyH.cons rfl (fun K hK=>?_) AllReadyH.nil;go_simp;go_wp2_with (go_at_call 41;(with_reducible refine (hw2 _).mono ?_);rintro e w2 ⟨rfl,rfl⟩);refine hK.out _ _ (by exact hHeld) (fun hHeldN=>?_);clear hK K hHeld;have hHeld:=hHeldN;clear hHeldN;try simp only [zs,Act.put]
       (refine tk 8 ?_;try simp only [zs,Act.put])
       refine wpAnyH_done (by kernel_rfl) ?_ _;try simp only [zs,Act.put]
       clear hHeld
       go_upto_region 10 with fail
       refine wp_region_held_drew (S:=(RH6 wr ⟨ab,ao+k,none⟩ ⟨w.heap.size,1,none⟩ ⟨b,o+n * 4,none⟩ ⟨b,o+n * 4+1,none⟩ ⟨b,o+n * 4+2,none⟩ ⟨b,o+n * 4+3,none⟩ (.int .i64 n) (.slice (some ⟨b,o,none⟩) gs.length gc) (.int .i64 g1) (.int .i64 g2) (.int .i64 glo) (.int .i64 ghi))) (by kernel_rfl) (by exact RHL.drew (RHL.drew hS0)) (fun hHeld=>?_)
       (refine tk 0 ?_;try simp only [zs,Act.put])
       (refine tk 1 ?_;try simp only [zs,Act.put])
       (refine tk 2 ?_;try simp only [zs,Act.put])
       (refine tk 3 ?_;try simp only [zs,Act.put])
       (refine tk 4 ?_;try simp only [zs,Act.put])
       (refine tk 5 ?_;try simp only [zs,Act.put])
       (refine tk 6 ?_;try simp only [zs,Act.put])
       (refine tk 7 ?_;try simp only [zs,Act.put])
       (refine wpAnyH_ready (rs:=[8]) (by kernel_rfl) (by simp) ?_;refine AllReadyH.cons rfl (fun K hK=>?_) AllReadyH.nil;go_simp;refine hK.out _ _ (by exact RHL.call hS0 (by go_grown)) (fun hHeldN=>?_);clear hK K hHeld;have hHeld:=hHeldN;clear hHeldN;try simp only [zs,Act.put])
       (refine wpAnyH_ready (rs:=[9]) (by kernel_rfl) (by simp) ?_;refine AllReadyH.cons rfl (fun K hK=>?_) AllReadyH.nil;go_simp;refine hK.out _ _ (by exact RHL.call hS0 (by go_grown)) (fun hHeldN=>?_);clear hK K hHeld;have hHeld:=hHeldN;clear hHeldN;try simp only [zs,Act.put])
       refine wpAnyH_done (by kernel_rfl) ?_ _;try simp only [zs,Act.put]
       obtain ⟨U,hU⟩:∃U,(wr.alloc (Obj.cells #[.int .i64 g1,.int .i64 g2,.int .i64 glo,.int .i64 ghi] 116)).drew.drew=U:=⟨_,rfl⟩
       have hBU:Below wr.heap.size wr U:=by subst hU;exact (((Below.refl _ wr).alloc (Nat.le_refl _) _).drew).drew
       have u0:U.cell? ⟨wr.heap.size,0,none⟩=some (.int .i64 g1):=by subst hU;go_cell
       have u1:U.cell? ⟨wr.heap.size,1,none⟩=some (.int .i64 g2):=by subst hU;go_cell
       have hHU:=(Mod.below (S:=fun _=>False) hBU).owns HO.out (fun _ _ h=>h)
       obtain ⟨pa,pc,rfl,hpc,hprow⟩:=Qa hHU
       have hpl:PS.length≤100:=by have:=HPS.out;omega
       have HHN:=Lib.hid fun n=>qbv pa pc PS n hpl hpc U hprow
       have HOU:=Lib.hid hHU
       have HBU:=Lib.hid (bcl HB.out hBU)
       have HBwU:=Lib.hid (bcl hBw hBU)
       have hszU:W.heap.size≤U.heap.size:=HBU.out.size
       rw [hU]
       clear hU hHeld hS0 hHU hprow hBU d0 d1 d2 d3 c0
       by_cases e1:t=g1
       ·subst e1
        have hnt:Qn ⟨t,g2,glo,ghi⟩ t=some g2:=by unfold Qn;rw [if_pos rfl]
        have hw1:wrap64 (t+g2)=t+g2:=wrap_small (by have:=HGB.out;omega) (by have:=HGB.out;omega)
        have hw2:wrap64 (t+g2 - t)=g2:=by rw [show t+g2 - t=g2 by omega];exact wrap_small (by have:=HGB.out;omega) (by have:=HGB.out;omega)
        have hw3:wrap64 g2=g2:=wrap_small (by have:=HGB.out;omega) (by have:=HGB.out;omega)
        have hhn:=HHN.out g2
        obtain ⟨q,hq⟩:∃q,hasI PS g2=q:=⟨_,rfl⟩
        rw [hq] at hhn
        have hin:=@qaX PS g2
        rw [hq] at hin
        have hA:=HA0.out
        simp only [hnt] at hA
        clear hnt hq
        cases q with
        | true =>
          rw [if_pos (hin.1 rfl)] at hA
          have HA:=Lib.hid hA
          clear hA hin
          go_wp2_with (go_at_call 94;(with_reducible refine hhn.mono ?_);rintro e w5 ⟨rfl,rfl⟩)
          go_ret
          exact ⟨by rw [← HA.out];rfl,HBwU.out⟩
        | false =>
          rw [if_neg (fun h=>by cases hin.2 h)] at hA
          have HA:=Lib.hid hA
          clear hA hin
          go_upto_region 16 with (go_at_call 94;(with_reducible refine hhn.mono ?_);rintro e w5 ⟨rfl,rfl⟩)
          clear hw1 hw2 hw3 hhn u0 u1
          go_wp2_with (at_builtin;refine wpList_append_own_at _ rfl (.tmp 63) (.tmp 65) 31 rfl W.heap.size 3 i0 (.int .i64 0) 1 8 ((qy _).trans Tryz.underlying31) hi hz0 hz1 hz2 rfl (by decide) _ _ _ rfl (HOU.out.alloc _) ⟨U.heap.size,0,none⟩ 1 1 [.int .i64 g2] rfl rfl (cell_one_new _ _ _) (Zz g2) (by unfold maxLen;omega) (by omega) (by simp;omega) ?_;intro v1 w3 n1 y1 nil1 at1)
          have y2:(U.alloc (.cells #[.int .i64 g2] 3)).grownBy w3 (Value.slice pa PS.length pc).ownBlock:=y1
          have hB3:Below W.heap.size W w3:=HBU.out.trans (((Mod.below ((Below.refl _ U).alloc (Nat.le_refl _) _)).trans (Mod.grown (S:=fun b=>(Value.slice pa PS.length pc).ownBlock=some b) y2 (fun b e=>e))).keep hszU (fun b hb=>(HOU.out.lt b hb).1))
          go_roundw
          case rel =>
           refine ⟨k+1,g2,PS ++ [g2],v1,rfl,rfl,rfl,by omega,Lib.hid (by have:=HPS.out;simp;omega),Lib.hid hB3,Lib.hid ?_,Lib.hid ?_⟩
           ·simp only [List.length_append,List.length_cons,List.length_nil,Nat.zero_add,List.map_append,List.map_cons,List.map_nil]
            exact n1
           ·rw [List.reverse_append]
            exact HA.out
          case measure=>simp [intOf];omega
       by_cases e2:t=g2
       ·subst e2
        have hf:(g1 != t)=true:=by simpa using fun h=>e1 h.symm
        have hnt:Qn ⟨g1,t,glo,ghi⟩ t=some g1:=by unfold Qn;rw [if_neg e1,if_pos rfl]
        have hw1:wrap64 (g1+t)=g1+t:=wrap_small (by have:=HGB.out;omega) (by have:=HGB.out;omega)
        have hw2:wrap64 (g1+t - t)=g1:=by rw [show g1+t - t=g1 by omega];exact wrap_small (by have:=HGB.out;omega) (by have:=HGB.out;omega)
        have hw3:wrap64 g1=g1:=wrap_small (by have:=HGB.out;omega) (by have:=HGB.out;omega)
        have hhn:=HHN.out g1
        obtain ⟨q,hq⟩:∃q,hasI PS g1=q:=⟨_,rfl⟩
        rw [hq] at hhn
        have hin:=@qaX PS g1
        rw [hq] at hin
        have hA:=HA0.out
        simp only [hnt] at hA
        clear hnt hq
        cases q with
        | true =>
          rw [if_pos (hin.1 rfl)] at hA
          have HA:=Lib.hid hA
          clear hA hin
          go_wp2_with (go_at_call 94;(with_reducible refine hhn.mono ?_);rintro e w5 ⟨rfl,rfl⟩)
          go_ret
          exact ⟨by rw [← HA.out];rfl,HBwU.out⟩
        | false =>
          rw [if_neg (fun h=>by cases hin.2 h)] at hA
          have HA:=Lib.hid hA
          clear hA hin
          go_upto_region 16 with (go_at_call 94;(with_reducible refine hhn.mono ?_);rintro e w5 ⟨rfl,rfl⟩)
          clear hw1 hw2 hw3 hhn u0 u1
          go_wp2_with (at_builtin;refine wpList_append_own_at _ rfl (.tmp 63) (.tmp 65) 31 rfl W.heap.size 3 i0 (.int .i64 0) 1 8 ((qy _).trans Tryz.underlying31) hi hz0 hz1 hz2 rfl (by decide) _ _ _ rfl (HOU.out.alloc _) ⟨U.heap.size,0,none⟩ 1 1 [.int .i64 g1] rfl rfl (cell_one_new _ _ _) (Zz g1) (by unfold maxLen;omega) (by omega) (by simp;omega) ?_;intro v1 w3 n1 y1 nil1 at1)
          have y2:(U.alloc (.cells #[.int .i64 g1] 3)).grownBy w3 (Value.slice pa PS.length pc).ownBlock:=y1
          have hB3:Below W.heap.size W w3:=HBU.out.trans (((Mod.below ((Below.refl _ U).alloc (Nat.le_refl _) _)).trans (Mod.grown (S:=fun b=>(Value.slice pa PS.length pc).ownBlock=some b) y2 (fun b e=>e))).keep hszU (fun b hb=>(HOU.out.lt b hb).1))
          go_roundw
          case rel =>
           refine ⟨k+1,g1,PS ++ [g1],v1,rfl,rfl,rfl,by omega,Lib.hid (by have:=HPS.out;simp;omega),Lib.hid hB3,Lib.hid ?_,Lib.hid ?_⟩
           ·simp only [List.length_append,List.length_cons,List.length_nil,Nat.zero_add,List.map_append,List.map_cons,List.map_nil]
            exact n1
           ·rw [List.reverse_append]
            exact HA.out
          case measure=>simp [intOf];omega
       have hf:(g1 != t)=true:=by simpa using fun h=>e1 h.symm
       have hf2:(g2 != t)=true:=by simpa using fun h=>e2 h.symm
       have hnt:Qn ⟨g1,g2,glo,ghi⟩ t=none:=by unfold Qn;rw [if_neg e1,if_neg e2]
       have hA:=HA0.out
       simp only [hnt] at hA
       have HA:=Lib.hid hA
       clear hA hnt
       go_wp2
       go_ret
       exact ⟨by rw [← HA.out];rfl,HBwU.out⟩
    ·obtain rfl:k=l.length:=by omega
     have hA:=HE.out
     rw [HN.out _ _ _ (by simp)] at hA
     have HA:=Lib.hid hA
     clear hA
     by_cases htw:t=ow
     ·subst htw
      go_wp2
      go_ret
      exact ⟨by have e:=HA.out;simp at e;rw [← e];rfl,hBw⟩
     ·have hne:(t != ow)=true:=by simpa using htw
      go_wp2
      go_ret
      exact ⟨by have e:=HA.out;simp [htw] at e;rw [← e];rfl,hBw⟩
end Go.Proofs.Tryz
namespace Go.Proofs.Tryz
open Go Go.Load Go.LoadR Go.RowKit Go.Maps
def leastS (good:Nat→Bool) (best:Option (List Int)) (s:Nat):Option (List Int):=match best with
 | none=>if good s then some (jW s) else none
 | some b=>if fewB (jW s) b then (if good s then some (jW s) else some b) else some b
def jb (good:Nat→Bool) (n:Nat):Option (List Int):=(List.range n).foldl (leastS good) none
theorem qac (good:Nat→Bool) (n:Nat):jb good (n+1)=leastS good (jb good n) n:=by
 unfold jb
 rw [List.range_succ,List.foldl_append]
 rfl
def BestI (W:World):Option (List Int)→Value→Value→Prop
 | none,q,f=>q=.slice none 0 0∧f=.bool false
 | some l,q,f=>∃a c,q=.slice a l.length c∧f=.bool true∧l.length≤c∧l.length≤8∧qh W 1 encI a l
theorem two_pow:∀n,n < 9→IntKind.u64.wrap ((2:Int) ^ n)=((2 ^ n:Nat):Int):=by decide +kernel
theorem wrap_u9 {i:Int} (h0:0≤i) (h4:i≤300):IntKind.u64.wrap (i+1)=i+1:=by
 have e:IntKind.u64.wrap (i+1)=(i+1) % 18446744073709551616:=rfl
 rw [e];omega
theorem qdN (l:Nat):(jW l).length≤8:=YM l 8
set_option maxHeartbeats 4000000 in
set_option maxRecDepth 100000 in
theorem qdK (D:DayM) (M:Nat) (A:Nat→Prop) (w0 w:World) (h:St D M A w0 w) (n:Nat) (hn:n≤8) (good:Nat→Bool) (fid:FuncId) (bound:Array Value) (hf:∀(args:Array Value) (w:World),(callFunc fid args).run qj w=.ok (.enter fid args) w)
 (hcall:∀s W,s < 256→St D M A w0 W→w.grownBy W (some M)→Calls qj fid (#[.int .u64 s] ++ bound) W fun e w'=>e=.returned (.bool (good s))∧St D M A w0 w'∧W.grownBy w' (some M)) :
 Calls qj 81 #[.int .i64 n,.func (.func fid) #[] bound] w fun e w'=>∃q f,e=.returned (.tuple #[q,f])∧BestI w' (jb good (2 ^ n)) q f∧St D M A w0 w'∧w.grownBy w' (some M):=by
 have hn0:(0:Int)≤(n:Int):=Int.natCast_nonneg n
 have hni:(n:Int)≤8:=by omega
 have hp:2 ^ n≤256:=Nat.pow_le_pow_right (n:=2) (by decide) hn
 have HC:=Lib.hid hcall
 have HST:=Lib.hid h
 have hls:=fun s (hs:s < 256) W=>qbV s hs W
 have HLS:=Lib.hid hls
 clear hcall h hls
 go_enter (sf 81 f81),ntmps81
 go_wp2
 go_step3
 go_wp2
 go_step3
 go_wp2
 rw [two_pow n (by omega)]
 obtain ⟨N,hN⟩:∃N,2 ^ n=N:=⟨_,rfl⟩
 rw [hN] at hp ⊢
 have HN:=Lib.hid hN
 clear hN hn0 hni hn
 go_loopw [10,4,5,6,7] (fun i q f x y wr=>∃(k:Nat) (q' f' x' y':Value),i=.int .u64 k∧q=q'∧f=f'∧x=x'∧y=y'∧k≤N∧Hid (St D M A w0 wr)∧Hid (w.grownBy wr (some M))∧Hid (BestI wr (jb good k) q' f')) (fun i _ _ _ _ _=>N - (intOf i).toNat)
 case atStart=>exact ⟨0,_,_,_,_,rfl,rfl,rfl,rfl,rfl,by omega,HST,Lib.hid (qi (Below.refl _ _)),Lib.hid ⟨rfl,rfl⟩⟩
 case round =>
  obtain ⟨k,q,f,x6,x7,rfl,rfl,rfl,rfl,rfl,hk,HS,HG,HB⟩:=hrel
  by_cases hlt:k < N
  ·have hk256:k < 256:=by omega
   have hkN:(k:Int) < (N:Int):=by omega
   have hkN2:¬ (N:Int)≤(k:Int):=by omega
   have hwk:IntKind.u64.wrap ((k:Int)+1)=(k:Int)+1:=wrap_u9 (by omega) (by omega)
   have HS1:=qac good k
   have HSX:=Lib.hid HS1
   clear HS1 hlt hkN2
   have hcl:=fun W (hS:St D M A w0 W) (hG:w.grownBy W (some M))=>HC.out k W hk256 hS hG
   obtain ⟨args,hargs⟩:∃args,(#[.int .u64 (k:Int)] ++ bound)=args:=⟨_,rfl⟩
   rw [hargs] at hcl
   obtain ⟨gd,hgd⟩:∃gd,good k=gd:=⟨_,rfl⟩
   rw [hgd] at hcl
   have HCL:=Lib.hid hcl
   have hll:=qdN k
   clear hcl
   cases hb:jb good k with
   | none =>
     have hB0:=HB.out
     rw [hb] at hB0
     obtain ⟨rfl,rfl⟩:=hB0
     have HX:Hid (jb good (k+1)=if gd then some (jW k) else none):=Lib.hid (by rw [HSX.out,hb,← hgd];rfl)
     clear hb HSX hgd HB
     cases gd with
     | true =>
       go_wp2_with (first | (go_at_call 110;(with_reducible refine (HLS.out k hk256 _).mono ?_);rintro e w1 ⟨a1,c1,rfl,hl1,hr1,hf1,hB1⟩;have hs1:=HS.out.keep hB1;have hg1:=ql HG.out (qi hB1)) | ((first | (rw [hargs]) | skip);(with_reducible refine (HCL.out _ hs1 hg1).mono ?_);rintro e w2 ⟨rfl,hs2,hg2⟩;have hr2:=hs1.rows hg2 hr1))
       go_roundw
       case rel=>exact ⟨k+1,_,_,_,_,rfl,rfl,rfl,rfl,rfl,by omega,Lib.hid hs2,Lib.hid (ql hg1 hg2),Lib.hid (by rw [HX.out];exact ⟨a1,c1,rfl,rfl,hl1,hll,hr2⟩)⟩
       case measure=>simp [intOf];omega
     | false =>
       go_wp2_with (first | (go_at_call 110;(with_reducible refine (HLS.out k hk256 _).mono ?_);rintro e w1 ⟨a1,c1,rfl,hl1,hr1,hf1,hB1⟩;have hs1:=HS.out.keep hB1;have hg1:=ql HG.out (qi hB1)) | ((first | (rw [hargs]) | skip);(with_reducible refine (HCL.out _ hs1 hg1).mono ?_);rintro e w2 ⟨rfl,hs2,hg2⟩;have hr2:=hs1.rows hg2 hr1))
       go_roundw
       case rel=>exact ⟨k+1,_,_,_,_,rfl,rfl,rfl,rfl,rfl,by omega,Lib.hid hs2,Lib.hid (ql hg1 hg2),Lib.hid (by rw [HX.out];exact ⟨rfl,rfl⟩)⟩
       case measure=>simp [intOf];omega
   | some l =>
     have hB0:=HB.out
     rw [hb] at hB0
     obtain ⟨a0,c0,rfl,rfl,hl0,hl8,hr0⟩:=hB0
     have HR0:=Lib.hid hr0
     have hfw:=fun a1 c1 W (h1:(jW k).length≤c1) (h2:qh W 1 encI a1 (jW k)) (h3:qh W 1 encI a0 l)=>qdd (jW k) l a1 a0 c1 c0 (by omega) (by omega) h1 hl0 W h2 h3
     obtain ⟨fb,hfb⟩:∃fb,fewB (jW k) l=fb:=⟨_,rfl⟩
     have HX:Hid (jb good (k+1)=if fb then (if gd then some (jW k) else some l) else some l):=Lib.hid (by rw [HSX.out,hb,← hgd,← hfb];rfl)
     rw [hfb] at hfw
     have HFW:=Lib.hid hfw
     clear hb HSX hgd HB hfw hfb hr0
     cases fb with
     | false =>
       go_wp2_with (first | (go_at_call 110;(with_reducible refine (HLS.out k hk256 _).mono ?_);rintro e w1 ⟨a1,c1,rfl,hl1,hr1,hf1,hB1⟩;have hs1:=HS.out.keep hB1;have hg1:=ql HG.out (qi hB1);have hr01:=HR0.out.keep hB1) | (go_at_call 111;(with_reducible refine (HFW.out _ _ _ hl1 hr1 hr01).mono ?_);rintro e w2 ⟨rfl,rfl⟩))
       go_roundw
       case rel=>exact ⟨k+1,_,_,_,_,rfl,rfl,rfl,rfl,rfl,by omega,Lib.hid hs1,Lib.hid hg1,Lib.hid (by rw [HX.out];exact ⟨a0,c0,rfl,rfl,hl0,hl8,hr01⟩)⟩
       case measure=>simp [intOf];omega
     | true =>
       cases gd with
       | true =>
         go_wp2_with (first | (go_at_call 110;(with_reducible refine (HLS.out k hk256 _).mono ?_);rintro e w1 ⟨a1,c1,rfl,hl1,hr1,hf1,hB1⟩;have hs1:=HS.out.keep hB1;have hg1:=ql HG.out (qi hB1);have hr01:=HR0.out.keep hB1) | (go_at_call 111;(with_reducible refine (HFW.out _ _ _ hl1 hr1 hr01).mono ?_);rintro e w2 ⟨rfl,rfl⟩) | ((first | (rw [hargs]) | skip);(with_reducible refine (HCL.out _ hs1 hg1).mono ?_);rintro e w2 ⟨rfl,hs2,hg2⟩;have hr2:=hs1.rows hg2 hr1))
         go_roundw
         case rel=>exact ⟨k+1,_,_,_,_,rfl,rfl,rfl,rfl,rfl,by omega,Lib.hid hs2,Lib.hid (ql hg1 hg2),Lib.hid (by rw [HX.out];exact ⟨a1,c1,rfl,rfl,hl1,hll,hr2⟩)⟩
         case measure=>simp [intOf];omega
       | false =>
         go_wp2_with (first | (go_at_call 110;(with_reducible refine (HLS.out k hk256 _).mono ?_);rintro e w1 ⟨a1,c1,rfl,hl1,hr1,hf1,hB1⟩;have hs1:=HS.out.keep hB1;have hg1:=ql HG.out (qi hB1);have hr01:=HR0.out.keep hB1) | (go_at_call 111;(with_reducible refine (HFW.out _ _ _ hl1 hr1 hr01).mono ?_);rintro e w2 ⟨rfl,rfl⟩) | ((first | (rw [hargs]) | skip);(with_reducible refine (HCL.out _ hs1 hg1).mono ?_);rintro e w2 ⟨rfl,hs2,hg2⟩;have hr2:=hs1.rows hg2 hr1))
         have hr02:=hs1.rows hg2 hr01
         go_roundw
         case rel=>exact ⟨k+1,_,_,_,_,rfl,rfl,rfl,rfl,rfl,by omega,Lib.hid hs2,Lib.hid (ql hg1 hg2),Lib.hid (by rw [HX.out];exact ⟨a0,c0,rfl,rfl,hl0,hl8,hr02⟩)⟩
         case measure=>simp [intOf];omega
  ·obtain rfl:k=N:=by omega
   go_wp2
   rw [Exit.noGoto_ret]
   go_ret2
   exact ⟨_,_,rfl,by rw [HN.out];exact HB.out,HS.out,HG.out⟩
end Go.Proofs.Tryz
namespace Go.Proofs.Tryz
open Go Go.Load Go.LoadR Go.RowKit
def Qd (p:PastM) (a:Nat):SetM:={ setOf p with away:=(a:Int) }
def qcj (D:DayM) (k:Nat) (p:PastM) (a:Nat):Bool:=(qG D (Qd p a)).getD k 0 == -1
set_option maxHeartbeats 1000000 in
set_option maxRecDepth 100000 in
theorem XJ (D:DayM) (m:Option Nat) (cb:Nat) (call:Int) (w:World) (hc:w.cell? ⟨cb,0,none⟩=some (.int .i64 call)) (hl:D.cs.length≤20) :
 Calls qj 77 #[dm D m,pt cb] w fun e w'=>e=.returned (.int .i64 (qU call D.cs.length))∧Below w.heap.size w w':=by
 have hix:=fun W=>Qk call D.cs.length W (by omega) (by omega)
 unfold dm
 generalize Value.slice D.ta D.ts.length D.tc=x0 at *
 generalize Value.slice D.ga D.gs.length D.gc=x1 at *
 generalize Value.slice D.oa D.os.length D.oc=x2 at *
 generalize Value.slice D.ha D.hs.length D.hc=x3 at *
 have hb:=lt_of_cell hc
 simp only at hb
 go_enter (sf 77 f77),ntmps77
 go_wp2_with (go_at_call 35;(with_reducible refine (hix _).mono ?_);rintro e w1 ⟨rfl,rfl⟩)
 go_ret
 exact ⟨rfl,by go_grown⟩
set_option maxHeartbeats 2000000 in
set_option maxRecDepth 100000 in
theorem Zf (D:DayM) (M:Nat) (A:Nat→Prop) (w0 w:World) (h:St D M A w0 w) (hA:∀b,A b→b < w.heap.size) (db cb:Nat) (hd:B6 w db (.slice D.ta D.ts.length D.tc) (.slice D.ga D.gs.length D.gc) (.slice D.oa D.os.length D.oc) (.slice D.ha D.hs.length D.hc) (.slice D.ca D.cs.length D.cc) (.map (some M)))
 (k:Nat) (hc:w.cell? ⟨cb,0,none⟩=some (.int .i64 k)) (hk:k < D.cs.length) (p:PastM) (hp:p.ok) (a:Nat) (ha:a < 256) :
 Calls qj 78 #[pvP p,.int .u64 a,pt db,pt cb] w fun e w'=>e=.returned (.bool (qcj D k p a))∧St D M A w0 w'∧w.grownBy w' (some M):=by
 have hpl:=fun W (hS:St D M A w0 W) (hg:w.grownBy W (some M))=>jY hS (Qd p a) (by simp [Qd,setOf]) hp (by constructor <;> simp [Qd] <;> omega) (fun b hb=>Nat.lt_of_lt_of_le (hA b hb) hg.size)
 have hlen:(qG D (Qd p a)).length=D.cs.length:=qX _ _
 have hcl:=h.sm.cs.1
 have has:=fun W=>zG p W
 obtain ⟨x,hx⟩:∃x,(qG D (Qd p a))[k]? = some x:=⟨(qG D (Qd p a))[k]'(by omega),by simp⟩
 unfold qcj
 rw [List.getD_eq_getElem?_getD,hx]
 simp only [Option.getD_some]
 have hml:=h.kn.lt
 generalize qG D (Qd p a)=R at *
 simp only [qL,Qd,setOf] at has hpl
 have HP:=Lib.hid hpl
 have HAS:=Lib.hid has
 have HST:=Lib.hid h
 have HX:=Lib.hid hx
 have HD:=Lib.hid hd
 clear hpl has h hx hA hp
 unfold dm at HP
 unfold pvP at HAS ⊢
 obtain ⟨pa,pb,pc,pd⟩:=p
 simp only at *
 generalize Value.slice D.ta D.ts.length D.tc=x0 at *
 generalize Value.slice D.ga D.gs.length D.gc=x1 at *
 generalize Value.slice D.oa D.os.length D.oc=x2 at *
 generalize Value.slice D.ha D.hs.length D.hc=x3 at *
 generalize Value.slice D.ca D.cs.length D.cc=x4 at *
 have hdl:=lt_of_cell hd.c0
 have hcl2:=lt_of_cell hc
 simp only at hdl hcl2
 have hk0:(0:Int)≤(k:Int):=Int.natCast_nonneg k
 have hk1:(k:Int) < (D.cs.length:Int):=by omega
 clear hd
 go_enter (sf 78 f78),ntmps78
 go_upto_region 1 with fail
 obtain ⟨W,hW⟩:∃W,w.alloc (Obj.cells #[.int .i64 pa,.int .i64 pb,.int .i64 pc,.int .i64 pd] 82)=W:=⟨_,rfl⟩
 have hBW:Below w.heap.size w W:=by subst hW;go_grown
 have q0:W.cell? ⟨w.heap.size,0,none⟩=some (.int .i64 pa):=by subst hW;go_cell
 have q1:W.cell? ⟨w.heap.size,1,none⟩=some (.int .i64 pb):=by subst hW;go_cell
 have q2:W.cell? ⟨w.heap.size,2,none⟩=some (.int .i64 pc):=by subst hW;go_cell
 have q3:W.cell? ⟨w.heap.size,3,none⟩=some (.int .i64 pd):=by subst hW;go_cell
 rw [hW]
 clear hW
 go_upto_region 2 with (go_at_call 39;(with_reducible refine (HAS.out _).mono ?_);rintro e w1 ⟨rfl,hB1⟩)
 clear q0 q1 q2 q3
 go_upto_region 3 with fail
 have hBw1:=Below.call hBW hB1 (by have:=hBW.size;omega)
 have hz1:=hBw1.size
 obtain ⟨B,hB⟩:∃B,w1.heap.size=B:=⟨_,rfl⟩
 obtain ⟨V,hV⟩:∃V,w1.alloc (Obj.cells #[.int .i64 pa,.int .i64 pb,.int .i64 pc,.int .i64 pd,.int .u64 a,.int .i64 (-1),.int .i64 0,.int .i64 0,.int .i64 0] 87)=V:=⟨_,rfl⟩
 have hBV:Below w.heap.size w V:=hBw1.trans (by subst hV;go_grown)
 obtain ⟨d0,d1,d2,d3,d4,d5⟩:=HD.out.keep hBV
 have hcV:=qb _ hBV hc
 have hS:RG16 D M A w0 V ⟨db,0,none⟩ ⟨db,1,none⟩ ⟨db,2,none⟩ ⟨db,3,none⟩ ⟨db,4,none⟩ ⟨db,5,none⟩ ⟨B,0,none⟩ ⟨B,1,none⟩ ⟨B,2,none⟩ ⟨B,3,none⟩ ⟨B,4,none⟩ ⟨B,5,none⟩ ⟨B,6,none⟩ ⟨B,7,none⟩ ⟨B,8,none⟩ ⟨cb,0,none⟩ x0 x1 x2 x3 x4 (.map (some M)) (.int .i64 pa) (.int .i64 pb) (.int .i64 pc) (.int .i64 pd) (.int .u64 a) (.int .i64 (-1)) (.int .i64 0) (.int .i64 0) (.int .i64 0) (.int .i64 k) V:=by
  refine ⟨d0,d1,d2,d3,d4,d5,?_,?_,?_,?_,?_,?_,?_,?_,?_,hcV,HST.out.keep hBV,qi (Below.refl _ _)⟩
  all_goals (subst hV;subst hB;go_cell)
 try rw [hV]
 rw [hB]
 clear hV hB1 hBw1 d0 d1 d2 d3 d4 d5 hcV hc hdl hcl2
 refine wp_region_held_drew (S:=(RG16 D M A w0 V ⟨db,0,none⟩ ⟨db,1,none⟩ ⟨db,2,none⟩ ⟨db,3,none⟩ ⟨db,4,none⟩ ⟨db,5,none⟩ ⟨B,0,none⟩ ⟨B,1,none⟩ ⟨B,2,none⟩ ⟨B,3,none⟩ ⟨B,4,none⟩ ⟨B,5,none⟩ ⟨B,6,none⟩ ⟨B,7,none⟩ ⟨B,8,none⟩ ⟨cb,0,none⟩ x0 x1 x2 x3 x4 (.map (some M)) (.int .i64 pa) (.int .i64 pb) (.int .i64 pc) (.int .i64 pd) (.int .u64 a) (.int .i64 (-1)) (.int .i64 0) (.int .i64 0) (.int .i64 0) (.int .i64 k))) (by kernel_rfl) (by exact RGL.drew hS) (fun hHeld=>?_)
 (refine tk 0 ?_;try simp only [zs,Act.put])
 (refine tk 1 ?_;try simp only [zs,Act.put])
 (refine tk 3 ?_;try simp only [zs,Act.put])
 refine wpAnyH_ready (rs:=[2]) (by kernel_rfl) (by simp) ?_;refine AllReadyH.cons rfl (fun K hK=>?_) AllReadyH.nil;go_simp;go_wp2_with (go_at_call 38;(with_reducible refine (HP.out _ (RGL.st hHeld) (ql (qi hBV) (RGL.gr hHeld))).mono ?_);rintro e w2 ⟨a9,c9,rfl,hlc,hrow,hst1,hg1⟩);refine hK.out _ _ (by exact RGL.play hHeld hst1 hg1) (fun hHeldN=>?_);clear hK K hHeld;have hHeld:=hHeldN;clear hHeldN;try simp only [zs,Act.put]
 obtain ⟨b,o,rfl,hP⟩:=hrow (by omega)
 have c8:=hP k x HX.out 0 _ rfl
 simp only [Nat.mul_one,Nat.add_zero] at c8
 have hkc:(k:Int)≤(c9:Int):=by omega
 clear hP
 (refine tk 4 ?_;try simp only [zs,Act.put])
 (refine wpAnyH_ready (rs:=[5]) (by kernel_rfl) (by simp) ?_;refine AllReadyH.cons rfl (fun K hK=>?_) AllReadyH.nil;go_simp;refine hK.out _ _ (by exact hHeld) (fun hHeldN=>?_);clear hK K hHeld;have hHeld:=hHeldN;clear hHeldN;try simp only [zs,Act.put])
 (refine tk 6 ?_;try simp only [zs,Act.put])
 (refine tk 7 ?_;try simp only [zs,Act.put])
 refine wpAnyH_done (by kernel_rfl) ?_ _;try simp only [zs,Act.put]
 have hgf:=RGL.gr (by with_reducible assumption)
 have hsf:=RGL.st (by with_reducible assumption)
 go_wp2
 go_ret
 exact ⟨rfl,hsf,ql (qi hBV) hgf⟩
set_option maxHeartbeats 4000000 in
set_option maxRecDepth 100000 in
theorem XK (D:DayM) (M:Nat) (A:Nat→Prop) (w0 w:World) (h:St D M A w0 w) (hA:∀b,A b→b < w.heap.size) (db cb fb:Nat) (hd:B6 w db (.slice D.ta D.ts.length D.tc) (.slice D.ga D.gs.length D.gc) (.slice D.oa D.os.length D.oc) (.slice D.ha D.hs.length D.hc) (.slice D.ca D.cs.length D.cc) (.map (some M))) (k:Nat) (hc:w.cell? ⟨cb,0,none⟩=some (.int .i64 k)) (hk:k < D.cs.length) (hf:w.cell? ⟨fb,0,none⟩=some (.func (.func 78) #[] #[pt db,pt cb])) (p:PastM) (hp:p.ok) :
 Calls qj 80 #[pvP p,pt fb] w fun e w'=>e=.returned (.bool (!qcj D k p 0))∧St D M A w0 w'∧w.grownBy w' (some M):=by
 have hbc:=fun W (hB:Below w.heap.size w W)=>Zf D M A w0 W (h.keep hB) (fun b hb=>Nat.lt_of_lt_of_le (hA b hb) hB.size) db cb (hd.keep hB) k (qb _ hB hc) hk p hp 0 (by decide)
 obtain ⟨R,hR⟩:∃R,qcj D k p 0=R:=⟨_,rfl⟩
 rw [hR] at hbc ⊢
 rw [show ((0:Nat):Int)=0 from rfl] at hbc
 have HB:=Lib.hid hbc
 have hfl:=lt_of_cell hf
 simp only at hfl
 clear hbc h hA hd hc hp hR
 unfold pvP at HB ⊢
 go_enter (sf 80 f80),ntmps80
 go_wp2_with (go_at_call 78;(with_reducible refine (HB.out _ (by go_grown)).mono ?_);rintro e w1 ⟨rfl,hs1,hg1⟩)
 go_ret
 exact ⟨rfl,hs1,ql (qi (by go_grown)) hg1⟩
set_option maxHeartbeats 4000000 in
set_option maxRecDepth 100000 in
theorem Xf (D:DayM) (M:Nat) (A:Nat→Prop) (w0 w:World) (h:St D M A w0 w) (hA:∀b,A b→b < w.heap.size) (db cb fb:Nat) (hd:B6 w db (.slice D.ta D.ts.length D.tc) (.slice D.ga D.gs.length D.gc) (.slice D.oa D.os.length D.oc) (.slice D.ha D.hs.length D.hc) (.slice D.ca D.cs.length D.cc) (.map (some M))) (k:Nat) (hc:w.cell? ⟨cb,0,none⟩=some (.int .i64 k)) (hk:k < D.cs.length) (hf:w.cell? ⟨fb,0,none⟩=some (.func (.func 78) #[] #[pt db,pt cb])) (sb s:Nat) (hs:w.cell? ⟨sb,0,none⟩=some (.int .u64 s)) (hs2:s < 256) (p:PastM) (hp:p.ok) :
 Calls qj 83 #[pvP p,pt fb,pt sb] w fun e w'=>e=.returned (.bool (qcj D k p s))∧St D M A w0 w'∧w.grownBy w' (some M):=by
 have hbc:=fun W (hB:Below w.heap.size w W)=>Zf D M A w0 W (h.keep hB) (fun b hb=>Nat.lt_of_lt_of_le (hA b hb) hB.size) db cb (hd.keep hB) k (qb _ hB hc) hk p hp s hs2
 obtain ⟨R,hR⟩:∃R,qcj D k p s=R:=⟨_,rfl⟩
 rw [hR] at hbc ⊢
 have HB:=Lib.hid hbc
 have hfl:=lt_of_cell hf
 have hsl:=lt_of_cell hs
 simp only at hfl hsl
 clear hbc h hA hd hc hp hR
 unfold pvP at HB ⊢
 go_enter (sf 83 f83),ntmps83
 go_wp2_with (go_at_call 78;(with_reducible refine (HB.out _ (by go_grown)).mono ?_);rintro e w1 ⟨rfl,hs1,hg1⟩)
 go_ret
 exact ⟨rfl,hs1,ql (qi (by go_grown)) hg1⟩
def YO (D:DayM) (k s:Nat):Bool:=!jQ (s:Int) k && !(qo D).any fun p=>qcj D k p s
theorem bit0:((List.range 256).all fun s=>(List.range 9).all fun k=>(bits BinOp.and IntKind.u64 ((s:Int) / 2 ^ min k 64) 1 == 0) == !jQ (s:Int) k)=true:=by decide +kernel
theorem bit0_of {s k:Nat} (hs:s < 256) (hk:k < 9):(bits BinOp.and IntKind.u64 ((s:Int) / 2 ^ min k 64) 1 == 0) = !jQ (s:Int) k:=by
 have h:=List.all_eq_true.1 bit0 s (List.mem_range.2 hs)
 have h:=List.all_eq_true.1 h k (List.mem_range.2 hk)
 simpa using h
set_option maxHeartbeats 4000000 in
set_option maxRecDepth 100000 in
theorem XL (D:DayM) (M:Nat) (A:Nat→Prop) (w0 w:World) (h:St D M A w0 w) (hA:∀b,A b→b < w.heap.size) (db cb fb:Nat) (hd:B6 w db (.slice D.ta D.ts.length D.tc) (.slice D.ga D.gs.length D.gc) (.slice D.oa D.os.length D.oc) (.slice D.ha D.hs.length D.hc) (.slice D.ca D.cs.length D.cc) (.map (some M))) (k:Nat) (hc:w.cell? ⟨cb,0,none⟩=some (.int .i64 k)) (hk:k < D.cs.length) (hf:w.cell? ⟨fb,0,none⟩=some (.func (.func 78) #[] #[pt db,pt cb])) (hk8:D.cs.length≤8) (hz:checkN D=0) (lb:Nat) (a:Option Addr) (c:Nat) (hlc:(qo D).length≤c) (hl:w.cell? ⟨lb,0,none⟩=some (.slice a (qo D).length c)) (hr:qh w 4 QK a (qo D)) (s:Nat) (hs2:s < 256) :
 Calls qj 82 #[.int .u64 s,pt cb,pt lb,pt fb] w fun e w'=>e=.returned (.bool (YO D k s))∧St D M A w0 w'∧w.grownBy w' (some M):=by
 obtain ⟨W,hW⟩:∃W,w.alloc (Obj.cells #[.int .u64 s] 84)=W:=⟨_,rfl⟩
 have hBW:Below w.heap.size w W:=by subst hW;go_grown
 have hsW:W.heap.size=w.heap.size+1:=by subst hW;simp
 have ks:W.cell? ⟨w.heap.size,0,none⟩=some (.int .u64 s):=by subst hW;go_cell
 have hml:=h.kn.lt
 have hN:=qN hz
 have hct:=Zg 83 #[pt fb,pt w.heap.size] (cE 83 (by decide +kernel)) (fun p=>qcj D k p s) (qo D) a c (by omega) (fun X=>St D M A w0 X∧W.grownBy X (some M)) (fun X hX=>(h.keep hBW).rows hX.2 (hr.keep hBW)) W ⟨h.keep hBW,qi (Below.refl _ _)⟩ (fun i x hx X hX=>by
  have hm:=Mod.grown hX.2 (S:=fun b=>b=M) (fun b e=>(Option.some.inj e).symm)
  have hzx:=hm.size
  have hne:∀{b:Nat} {v:Value} {o:Nat},w.cell? ⟨b,o,none⟩=some v→b≠M:=fun hq e=>by
   obtain ⟨f,h1,_⟩:=h.kn
   exact map_cell h1 hq e
  refine (Xf D M A w0 X hX.1 (fun b hb=>by have:=hA b hb;omega) db cb fb ((hd.keep hBW).mod hm (hne hd.c0)) k (hm.cell (qb _ hBW hc) (hne hc)) hk (hm.cell (qb _ hBW hf) (hne hf)) w.heap.size s (hm.cell ks (by simp only;omega)) hs2 x (jA hz x (List.mem_of_getElem? hx))).mono ?_
  rintro e w' ⟨he,h1,h2⟩
  exact ⟨he,h1,ql hX.2 h2⟩)
 unfold YO
 obtain ⟨R,hR⟩:∃R,((qo D).any fun p=>qcj D k p s)=R:=⟨_,rfl⟩
 rw [hR] at hct ⊢
 have hbit:=bit0_of hs2 (show k < 9 by omega)
 have hbit2:=hbit
 rw [Nat.min_eq_left (show k≤64 by omega)] at hbit2
 have hk0:(0:Int)≤(k:Int):=Int.natCast_nonneg k
 have hk1:(k:Int) < 64:=by omega
 have c0:=qb _ hBW hc
 have l0:=qb _ hBW hl
 have HF:=Lib.hid (And.intro h hBW)
 have HC:=Lib.hid hct
 have hcl:=lt_of_cell hc
 have hll:=lt_of_cell hl
 simp only at hcl hll
 clear h hA hd hf hr hR hct hc hl hz hN
 cases hb:jQ (s:Int) k with
 | true =>
   rw [hb] at hbit hbit2
   simp only [Bool.not_true] at hbit hbit2
   go_enter (sf 82 f82),ntmps82
   go_upto_region 1 with fail
   try rw [hW]
   clear hW
   go_wp2
   go_ret
   exact ⟨rfl,HF.out.1.keep HF.out.2,qi HF.out.2⟩
 | false =>
   rw [hb] at hbit hbit2
   simp only [Bool.not_false] at hbit hbit2
   go_enter (sf 82 f82),ntmps82
   go_upto_region 1 with fail
   try rw [hW]
   clear hW
   go_wp2_with (go_at_call 79;(with_reducible refine HC.out.mono ?_);rintro e w1 ⟨rfl,hs1,hg1⟩)
   go_ret
   exact ⟨rfl,hs1,ql (qi HF.out.2) hg1⟩
def BecR (D:DayM) (k:Nat) (W:World) (q:Value) (al:Int):Prop :=
 if (qo D).any (fun p => !qcj D k p 0) then q=.slice none 0 0∧al=7
 else match jb (YO D k) (2 ^ D.cs.length) with
  | none=>q=.slice none 0 0∧al=9
  | some l=>al=0∧∃a c,q=.slice a l.length c∧l.length≤c∧qh W 1 encI a l
def BecP (D:DayM) (call:Int) (w:World) (e:Ending) (w':World):Prop :=
 Below w.heap.size w w'∧∃q al,e=.returned (.tuple #[q,.int .i64 al])∧((zf D (qU call D.cs.length)≠0∧q=.slice none 0 0∧al=zf D (qU call D.cs.length))∨(zf D (qU call D.cs.length)=0∧BecR D call.toNat w' q al))
set_option maxHeartbeats 4000000 in
set_option maxRecDepth 100000 in
theorem JL (D:DayM) (w:World) (h:DayAt w D) (hs:DaySm D) (hG:Globs w) (call:Int):Calls qj 30 #[dv D,.int .i64 call] w (BecP D call w):=by
 have hcl:=hs.cs.1
 obtain ⟨W,hW⟩:∃W,(w.alloc (Obj.cells #[.slice D.ta D.ts.length D.tc,.slice D.ga D.gs.length D.gc,.slice D.oa D.os.length D.oc,.slice D.ha D.hs.length D.hc,.slice D.ca D.cs.length D.cc] 28)).alloc (Obj.cells #[.int .i64 call] 3)=W:=⟨_,rfl⟩
 have hBW:Below w.heap.size w W:=by subst hW;go_grown
 have hsW:W.heap.size=w.heap.size+2:=by subst hW;simp
 have k0:W.cell? ⟨w.heap.size,0,none⟩=some (.slice D.ta D.ts.length D.tc):=by subst hW;go_cell
 have k1:W.cell? ⟨w.heap.size,1,none⟩=some (.slice D.ga D.gs.length D.gc):=by subst hW;go_cell
 have k2:W.cell? ⟨w.heap.size,2,none⟩=some (.slice D.oa D.os.length D.oc):=by subst hW;go_cell
 have k3:W.cell? ⟨w.heap.size,3,none⟩=some (.slice D.ha D.hs.length D.hc):=by subst hW;go_cell
 have k4:W.cell? ⟨w.heap.size,4,none⟩=some (.slice D.ca D.cs.length D.cc):=by subst hW;go_cell
 have kc:W.cell? ⟨w.heap.size+1,0,none⟩=some (.int .i64 call):=by subst hW;go_cell
 have hask:=yG D W (h.keep hBW) hs (hG.keep hBW) 77 #[pt (w.heap.size+1)] (cE 77 (by decide +kernel)) (qU call D.cs.length) (fun M V hM hB=>XJ D (some M) (w.heap.size+1) call V (qb _ hB kc) hcl)
 obtain ⟨al,hal⟩:∃al,qU call D.cs.length=al:=⟨_,rfl⟩
 unfold BecP
 rw [hal] at hask ⊢
 have hdv:dv D=.agg #[.slice D.ta D.ts.length D.tc,.slice D.ga D.gs.length D.gc,.slice D.oa D.os.length D.oc,.slice D.ha D.hs.length D.hc,.slice D.ca D.cs.length D.cc]:=rfl
 rw [hdv] at hask ⊢
 have HD:=Lib.hid (And.intro h (And.intro hs hal))
 clear h hs hG hdv hal
 by_cases ha:zf D al=0
 ·have hz:=yf ha
  have hix:=QQ (HD.out.2.2.trans hz.2)
  have hok:=hask.mono (fun e w' h=>h.ok ha)
  have HA:=Lib.hid ha
  have HZ:=Lib.hid hz.1
  clear hask ha hz
  go_enter (sf 30 f30),ntmps30
  go_upto_region 1 with fail
  try rw [hW]
  clear hW
  unfold dm at hok
  go_upto_region 4 with (go_at_call 33;(with_reducible refine hok.mono ?_);rintro e w1 ⟨M,a,c,rfl,hpos,hlc,hrow,hfr,hst⟩;have hs1:=hst.bel.size)
  obtain ⟨k,rfl⟩:=Int.eq_ofNat_of_zero_le hix.1
  have hML:=hst.kn.lt
  have hMW:=hst.le
  obtain ⟨V2,hV2⟩:∃V2,(w1.alloc (Obj.cells #[.slice D.ta D.ts.length D.tc,.slice D.ga D.gs.length D.gc,.slice D.oa D.os.length D.oc,.slice D.ha D.hs.length D.hc,.slice D.ca D.cs.length D.cc,.map (some M)] 74)).alloc (Obj.cells #[.slice a (qo D).length c] 75)=V2:=⟨_,rfl⟩
  have hBV:Below w1.heap.size w1 V2:=by subst hV2;go_grown
  have h7:B6 V2 w1.heap.size (.slice D.ta D.ts.length D.tc) (.slice D.ga D.gs.length D.gc) (.slice D.oa D.os.length D.oc) (.slice D.ha D.hs.length D.hc) (.slice D.ca D.cs.length D.cc) (.map (some M)):=by subst hV2;exact ⟨by go_cell,by go_cell,by go_cell,by go_cell,by go_cell,by go_cell⟩
  have hl7:V2.cell? ⟨w1.heap.size+1,0,none⟩=some (.slice a (qo D).length c):=by subst hV2;go_cell
  have hszV:V2.heap.size=w1.heap.size+1+1:=by subst hV2;simp
  obtain ⟨T,hT⟩:∃T,w1.heap.size=T:=⟨_,rfl⟩
  try rw [hV2]
  have hsV:=hst.keep hBV
  have hrV:=hrow.keep hBV
  have kcV:=qb _ hsV.bel kc
  rw [hT] at h7 hl7 hML hszV ⊢
  have HS:=Lib.hid (And.intro h7 (And.intro hl7 (And.intro hsV (And.intro hrV kcV))))
  clear hBV hV2 hrow hst hok hfr k0 k1 k2 k3 k4 h7 hl7 hsV hrV kcV kc hpos
  go_upto_region 5 with fail
  obtain ⟨V3,hV3⟩:∃V3,V2.alloc (Obj.cells #[.func (.func 78) #[] #[pt T,pt (w.heap.size+1)]] 121)=V3:=⟨_,rfl⟩
  have hB3:Below V2.heap.size V2 V3:=by subst hV3;go_grown
  have hz3:V3.heap.size=V2.heap.size+1:=by subst hV3;simp
  have hfb:V3.cell? ⟨V2.heap.size,0,none⟩=some (.func (.func 78) #[] #[pt T,pt (w.heap.size+1)]):=by subst hV3;go_cell
  try rw [hV3]
  clear hV3
  obtain ⟨h7,hl7,hsV,hrV,kcV⟩:=HS.out
  have h73:=h7.keep hB3
  have hl3:=qb _ hB3 hl7
  have hs3:=hsV.keep hB3
  have hr3:=hrV.keep hB3
  have kc3:=qb _ hB3 kcV
  have hkl:k < D.cs.length:=by omega
  have hcs8:=(zF D HZ.out).cs
  have hlen:=qN HZ.out
  rw [hszV] at hfb hz3
  try rw [hszV]
  have hH:∀X,V3.grownBy X (some M)→B6 X T (.slice D.ta D.ts.length D.tc) (.slice D.ga D.gs.length D.gc) (.slice D.oa D.os.length D.oc) (.slice D.ha D.hs.length D.hc) (.slice D.ca D.cs.length D.cc) (.map (some M))∧X.cell? ⟨w.heap.size+1,0,none⟩=some (.int .i64 k)∧X.cell? ⟨T+1+1,0,none⟩=some (.func (.func 78) #[] #[pt T,pt (w.heap.size+1)])∧X.cell? ⟨T+1,0,none⟩=some (.slice a (qo D).length c)∧qh X 4 QK a (qo D):=fun X hX=>by
   have hm:=Mod.grown hX (S:=fun b=>b=M) (fun b e=>(Option.some.inj e).symm)
   exact ⟨h73.mod hm (by omega),hm.cell kc3 (by simp only;omega),hm.cell hfb (by simp only;omega),hm.cell hl3 (by simp only;omega),hs3.rows hX hr3⟩
  have hct:=Zg 80 #[pt (T+1+1)] (cE 80 (by decide +kernel)) (fun p => !qcj D k p 0) (qo D) a c (by omega) (fun X=>St D M (fun _=>False) W X∧V3.grownBy X (some M)) (fun X hX=>(hH X hX.2).2.2.2.2) V3 ⟨hs3,qi (Below.refl _ _)⟩ (fun i x hx X hX=>by
   obtain ⟨g1,g2,g3,-,-⟩:=hH X hX.2
   refine (XK D M (fun _=>False) W X hX.1 (fun b hb=>hb.elim) T (w.heap.size+1) (T+1+1) g1 k g2 hkl g3 x (jA HZ.out x (List.mem_of_getElem? hx))).mono ?_
   rintro e w' ⟨he,h1,h2⟩
   exact ⟨he,h1,ql hX.2 h2⟩)
  have hle:=fun X (hX:St D M (fun _=>False) W X∧V3.grownBy X (some M))=>qdK D M (fun _=>False) W X hX.1 D.cs.length hcs8 (YO D k) 82 #[pt (w.heap.size+1),pt (T+1),pt (T+1+1)] (cE 82 (by decide +kernel)) (fun s Y hs hY hg=>by
   obtain ⟨g1,g2,g3,g4,g5⟩:=hH Y (ql hX.2 hg)
   exact XL D M (fun _=>False) W Y hY (fun b hb=>hb.elim) T (w.heap.size+1) (T+1+1) g1 k g2 hkl g3 hcs8 HZ.out (T+1) a c hlc g4 g5 s hs)
  have hcA:∀X,V3.grownBy X (some M)→X.cell? ⟨T,4,none⟩=some (.slice D.ca D.cs.length D.cc):=fun X hX=>(hH X hX).1.c4
  have HH:=Lib.hid hcA
  have HLE:=Lib.hid hle
  have HCT:=Lib.hid hct
  have HF:=Lib.hid (And.intro hBW hs3)
  have hbk:BecR D ((k:Int)).toNat=BecR D k:=by rw [Int.toNat_natCast]
  have HBK:=Lib.hid hbk
  clear h7 hl7 hsV hrV kcV h73 hs3 hr3 kc3 hH hct hle hcA hbk HS hfb hB3
  obtain ⟨R,hR⟩:∃R,((qo D).any fun p => !qcj D k p 0)=R:=⟨_,rfl⟩
  rw [hR] at HCT
  have HR:=Lib.hid hR
  clear hR
  cases R with
  | true =>
    go_wp2_with (go_at_call 79;(with_reducible refine HCT.out.mono ?_);rintro e w2 ⟨rfl,hs2,hg2⟩)
    go_ret2
    exact ⟨Below.call HF.out.1 hs2.bel (by omega),_,_,rfl,.inr ⟨HA.out,by rw [HBK.out];unfold BecR;rw [HR.out];exact ⟨rfl,rfl⟩⟩⟩
  | false =>
    obtain ⟨O,hO⟩:∃O,jb (YO D k) (2 ^ D.cs.length)=O:=⟨_,rfl⟩
    rw [hO] at HLE
    have HO:=Lib.hid hO
    clear hO
    cases O with
    | none =>
      go_wp2_with (first | (go_at_call 79;(with_reducible refine HCT.out.mono ?_);rintro e w2 ⟨rfl,hs2,hg2⟩;have c4:=HH.out w2 hg2) | (go_at_call 81;(with_reducible refine (HLE.out w2 ⟨hs2,hg2⟩).mono ?_);rintro e w5 ⟨q,f,rfl,⟨rfl,rfl⟩,hs5,hg5⟩))
      go_ret2
      exact ⟨Below.call HF.out.1 hs5.bel (by omega),_,_,rfl,.inr ⟨HA.out,by rw [HBK.out];unfold BecR;rw [HR.out,HO.out];exact ⟨rfl,rfl⟩⟩⟩
    | some l =>
      go_wp2_with (first | (go_at_call 79;(with_reducible refine HCT.out.mono ?_);rintro e w2 ⟨rfl,hs2,hg2⟩;have c4:=HH.out w2 hg2) | (go_at_call 81;(with_reducible refine (HLE.out w2 ⟨hs2,hg2⟩).mono ?_);rintro e w5 ⟨q,f,rfl,⟨a5,c5,rfl,rfl,hl5,h85,hr5⟩,hs5,hg5⟩))
      go_ret2
      exact ⟨Below.call HF.out.1 hs5.bel (by omega),_,_,rfl,.inr ⟨HA.out,by rw [HBK.out];unfold BecR;rw [HR.out,HO.out];exact ⟨rfl,a5,c5,rfl,hl5,hr5⟩⟩⟩
 ·have hbad:=hask.mono (fun e w' h=>h.bad ha)
  have hb:(zf D al != 0)=true:=by simpa using ha
  unfold dz at hbad
  have HA:=Lib.hid ha
  clear hask ha
  generalize zf D al=r at *
  go_enter (sf 30 f30),ntmps30
  go_upto_region 1 with fail
  try rw [hW]
  clear hW
  go_wp2_with (go_at_call 33;(with_reducible refine hbad.mono ?_);rintro e w1 ⟨rfl,hB1⟩;have hs1:=hB1.size)
  go_ret2
  exact ⟨Below.call hBW (by go_grown) (by omega),_,_,rfl,.inl ⟨HA.out,rfl,rfl⟩⟩
theorem jl (w:World):(isAgg 28).run qj w=.ok true w:=by kernel_rfl
theorem xG (w:World):(Go.sizeOf 28).run qj w=.ok 5 w:=by kernel_rfl
def d0v:Value:=.agg #[.slice none 0 0,.slice none 0 0,.slice none 0 0,.slice none 0 0,.slice none 0 0]
def AgrP (D:DayM) (w:World) (e:Ending) (w':World):Prop :=
 Below w.heap.size w w'∧((zf D 0≠0∧e=.returned (.tuple #[d0v,.int .i64 (zf D 0)]))∨(zf D 0=0∧e=.returned (.tuple #[dv D,.int .i64 0])))
set_option maxHeartbeats 4000000 in
set_option maxRecDepth 100000 in
theorem qby (D:DayM) (w:World) (h:DayAt w D) (hs:DaySm D) (hG:Globs w):Calls qj 76 #[dv D] w (AgrP D w):=by
 obtain ⟨W,hW⟩:∃W,(w.alloc (Obj.cells #[.slice D.ta D.ts.length D.tc,.slice D.ga D.gs.length D.gc,.slice D.oa D.os.length D.oc,.slice D.ha D.hs.length D.hc,.slice D.ca D.cs.length D.cc] 28)).alloc (Obj.cells #[.slice none 0 0,.slice none 0 0,.slice none 0 0,.slice none 0 0,.slice none 0 0] 28)=W:=⟨_,rfl⟩
 have hBW:Below w.heap.size w W:=by subst hW;go_grown
 have hsW:W.heap.size=w.heap.size+2:=by subst hW;simp
 have k0:W.cell? ⟨w.heap.size,0,none⟩=some (.slice D.ta D.ts.length D.tc):=by subst hW;go_cell
 have k1:W.cell? ⟨w.heap.size,1,none⟩=some (.slice D.ga D.gs.length D.gc):=by subst hW;go_cell
 have k2:W.cell? ⟨w.heap.size,2,none⟩=some (.slice D.oa D.os.length D.oc):=by subst hW;go_cell
 have k3:W.cell? ⟨w.heap.size,3,none⟩=some (.slice D.ha D.hs.length D.hc):=by subst hW;go_cell
 have k4:W.cell? ⟨w.heap.size,4,none⟩=some (.slice D.ca D.cs.length D.cc):=by subst hW;go_cell
 have b0:W.cell? ⟨w.heap.size+1,0,none⟩=some (.slice none 0 0):=by subst hW;go_cell
 have b1:W.cell? ⟨w.heap.size+1,1,none⟩=some (.slice none 0 0):=by subst hW;go_cell
 have b2:W.cell? ⟨w.heap.size+1,2,none⟩=some (.slice none 0 0):=by subst hW;go_cell
 have b3:W.cell? ⟨w.heap.size+1,3,none⟩=some (.slice none 0 0):=by subst hW;go_cell
 have b4:W.cell? ⟨w.heap.size+1,4,none⟩=some (.slice none 0 0):=by subst hW;go_cell
 have g0:W.frozen? ⟨w.heap.size+1,0,none⟩=false:=by subst hW;go_cell
 have g1:W.frozen? ⟨w.heap.size+1,1,none⟩=false:=by subst hW;go_cell
 have g2:W.frozen? ⟨w.heap.size+1,2,none⟩=false:=by subst hW;go_cell
 have g3:W.frozen? ⟨w.heap.size+1,3,none⟩=false:=by subst hW;go_cell
 have g4:W.frozen? ⟨w.heap.size+1,4,none⟩=false:=by subst hW;go_cell
 have hask:=yG D W (h.keep hBW) hs (hG.keep hBW) 55 #[] (cE 55 (by decide +kernel)) 0 (fun M V hM hB=>by unfold dm;exact yF _ _ _ _ _ _ V)
 have hdv:dv D=.agg #[.slice D.ta D.ts.length D.tc,.slice D.ga D.gs.length D.gc,.slice D.oa D.os.length D.oc,.slice D.ha D.hs.length D.hc,.slice D.ca D.cs.length D.cc]:=rfl
 unfold AgrP
 rw [hdv] at hask ⊢
 clear h hs hG hdv
 by_cases ha:zf D 0=0
 ·have hok:=hask.mono (fun e w' h=>h.ok ha)
  have HA:=Lib.hid ha
  clear hask ha
  go_enter (sf 76 f76),ntmps76
  go_upto_region 1 with fail
  try rw [hW]
  clear hW
  unfold dm at hok
  go_upto_region 2 with (go_at_call 33;(with_reducible refine hok.mono ?_);rintro e w1 ⟨M,a,c,rfl,hpos,hlc,hrow,hfr,hst⟩;have hs1:=hst.bel.size)
  obtain ⟨V,hV⟩:∃V,w1.alloc (Obj.cells #[.slice D.ta D.ts.length D.tc,.slice D.ga D.gs.length D.gc,.slice D.oa D.os.length D.oc,.slice D.ha D.hs.length D.hc,.slice D.ca D.cs.length D.cc,.map (some M)] 74)=V:=⟨_,rfl⟩
  have hBV:Below W.heap.size W V:=Below.call hst.bel (by subst hV;go_grown) (by omega)
  try rw [hV]
  have k0:=qb _ hBV k0
  have k1:=qb _ hBV k1
  have k2:=qb _ hBV k2
  have k3:=qb _ hBV k3
  have k4:=qb _ hBV k4
  have c0:=qb _ hBV b0
  have f0:=qd _ hBV b0 g0
  have c1:=qb _ hBV b1
  have f1:=qd _ hBV b1 g1
  have c2:=qb _ hBV b2
  have f2:=qd _ hBV b2 g2
  have c3:=qb _ hBV b3
  have f3:=qd _ hBV b3 g3
  have c4:=qb _ hBV b4
  have f4:=qd _ hBV b4 g4
  have hzV:=hBV.size
  clear hV hst hok hfr hrow b0 b1 b2 b3 b4
  go_wp2
  refine LoadR.ret_ct5 results76 jl xG rfl rfl c0 c1 c2 c3 c4 ⟨?_,.inr ⟨HA.out,rfl⟩⟩
  exact LoadR.Below.set5 (Below.call hBW hBV (by omega)) (by omega)
 ·have hbad:=hask.mono (fun e w' h=>h.bad ha)
  have hb:(zf D 0 != 0)=true:=by simpa using ha
  unfold dz at hbad
  have HA:=Lib.hid ha
  clear hask ha
  generalize zf D 0=r at *
  go_enter (sf 76 f76),ntmps76
  go_upto_region 1 with fail
  try rw [hW]
  clear hW
  go_upto_region 2 with (go_at_call 33;(with_reducible refine hbad.mono ?_);rintro e w1 ⟨rfl,hB1⟩;have hs1:=hB1.size)
  obtain ⟨V,hV⟩:∃V,w1.alloc (Obj.cells #[.slice none 0 0,.slice none 0 0,.slice none 0 0,.slice none 0 0,.slice none 0 0,.map none] 74)=V:=⟨_,rfl⟩
  have hBV:Below W.heap.size W V:=Below.call hB1 (by subst hV;go_grown) (by omega)
  try rw [hV]
  have k0:=qb _ hBV k0
  have k1:=qb _ hBV k1
  have k2:=qb _ hBV k2
  have k3:=qb _ hBV k3
  have k4:=qb _ hBV k4
  have c0:=qb _ hBV b0
  have f0:=qd _ hBV b0 g0
  have c1:=qb _ hBV b1
  have f1:=qd _ hBV b1 g1
  have c2:=qb _ hBV b2
  have f2:=qd _ hBV b2 g2
  have c3:=qb _ hBV b3
  have f3:=qd _ hBV b3 g3
  have c4:=qb _ hBV b4
  have f4:=qd _ hBV b4 g4
  have hzV:=hBV.size
  clear hV hB1 hbad b0 b1 b2 b3 b4
  go_wp2
  refine LoadR.ret_ct5 results76 jl xG rfl rfl c0 c1 c2 c3 c4 ⟨?_,.inl ⟨HA.out,rfl⟩⟩
  exact LoadR.Below.set5 (Below.call hBW hBV (by omega)) (by omega)
end Go.Proofs.Tryz
namespace Go.Proofs.Tryz
open Go Go.Load Go.LoadR Go.RowKit Go.Instr
def qbd:List Int→List Int→Bool
 | [],[]=>false
 | [],_ :: _=>true
 | _ :: _,[]=>false
 | a :: A,b :: B=>if a≠b then decide (a < b) else qbd A B
theorem Jc:∀A B:List Int,(!qbd A B && !qbd B A)=decide (A=B)
 | [],[]=>rfl
 | [],_ :: _=>rfl
 | _ :: _,[]=>rfl
 | a :: A,b :: B=>by
   simp only [qbd]
   by_cases e:a=b
   ·subst e
    simp only [ne_eq,not_true_eq_false,if_false,Jc A B]
    simp
   ·have e':b≠a:=Ne.symm e
    simp only [ne_eq,e,e',not_false_eq_true,if_true]
    have h1:(a :: A=b :: B)↔False:=by simp [e]
    rw [decide_eq_false (by simp [e]:¬ (a :: A=b :: B))]
    rcases Int.lt_or_gt_of_ne e with h | h
    ·rw [decide_eq_true h];rfl
    ·rw [decide_eq_true (show b < a from h)];simp
theorem qdM {A B:List Int} {k:Nat} {a b:Int} (ha:A[k]? = some a) (hb:B[k]? = some b):qbd (A.drop k) (B.drop k)=if a≠b then decide (a < b) else qbd (A.drop (k+1)) (B.drop (k+1)):=by
 obtain ⟨h1,rfl⟩:=List.getElem?_eq_some_iff.1 ha
 obtain ⟨h2,rfl⟩:=List.getElem?_eq_some_iff.1 hb
 rw [List.drop_eq_getElem_cons h1,List.drop_eq_getElem_cons h2]
 rfl
theorem lexN_end {A B:List Int} {k:Nat} (h:A.length≤k∨B.length≤k) (hk1:k≤A.length) (hk2:k≤B.length):qbd (A.drop k) (B.drop k)=decide (A.length < B.length):=by
 by_cases h1:A.length≤k
 ·rw [List.drop_eq_nil_of_le h1]
  by_cases h2:B.length≤k
  ·rw [List.drop_eq_nil_of_le h2,decide_eq_false (by omega)];rfl
  ·rw [List.drop_eq_getElem_cons (show k < B.length by omega),decide_eq_true (by omega)];rfl
 ·rw [List.drop_eq_getElem_cons (show k < A.length by omega),List.drop_eq_nil_of_le (show B.length≤k by omega),decide_eq_false (by omega)];rfl
set_option maxHeartbeats 2000000 in
set_option maxRecDepth 100000 in
theorem YG (aa ab:Option Addr) (ca cb:Nat) (A B:List Int) (w:World) (ha:qh w 1 encI aa A) (hb:qh w 1 encI ab B) (h1:A.length≤100) (h2:B.length≤100) (hca:A.length≤ca) (hcb:B.length≤cb):Calls qj 43 #[.slice aa A.length ca,.slice ab B.length cb] w fun e w'=>e=.returned (.bool (qbd A B))∧Below w.heap.size w w':=by
 have HA:=Lib.hid ha
 have HB:=Lib.hid hb
 have HD:=Lib.hid fun (k:Nat) (a b:Int) (ha:A[k]? = some a) (hb:B[k]? = some b)=>qdM ha hb
 have HE:=Lib.hid fun (k:Nat) (h:A.length≤k∨B.length≤k) (hk1:k≤A.length) (hk2:k≤B.length)=>lexN_end h hk1 hk2
 have H0:Hid (qbd A B=qbd (A.drop 0) (B.drop 0)):=Lib.hid rfl
 clear ha hb
 go_enter (sf 43 f43),ntmps43
 go_wp2
 go_loopw [5] (fun i wr=>∃k:Nat,i=.int .i64 k∧k≤A.length∧k≤B.length∧Below w.heap.size w wr∧Hid (qbd A B=qbd (A.drop k) (B.drop k))) (fun i _=>A.length - (intOf i).toNat)
 case atStart=>exact ⟨0,rfl,by omega,by omega,.refl _ _,H0⟩
 case round =>
  obtain ⟨k,rfl,hk1,hk2,hBr,HL⟩:=hrel
  have hk0:(0:Int)≤(k:Int):=Int.natCast_nonneg k
  by_cases hlt:k < A.length∧k < B.length
  ·obtain ⟨l1,l2⟩:=hlt
   obtain ⟨a,ha⟩:∃a,A[k]? = some a:=⟨A[k],by simp [l1]⟩
   obtain ⟨b,hb⟩:∃b,B[k]? = some b:=⟨B[k],by simp [l2]⟩
   obtain ⟨ba,oa,rfl,ra⟩:=HA.out (by omega)
   obtain ⟨bb,ob,rfl,rb⟩:=HB.out (by omega)
   have c0:=qb _ hBr (ra k a ha 0 _ rfl)
   have c1:=qb _ hBr (rb k b hb 0 _ rfl)
   simp only [Nat.mul_one,Nat.add_zero] at c0 c1
   have j1:(k:Int)≤(ca:Int):=by omega
   have j2:(k:Int)≤(cb:Int):=by omega
   have hd:=Lib.hid (HD.out k a b ha hb)
   have i1:(k:Int) < (A.length:Int):=by omega
   have i2:(k:Int) < (B.length:Int):=by omega
   clear ra rb ha hb
   by_cases e:a=b
   ·subst e
    go_wp2
    go_quiet (fail)
    go_wp2
    go_roundw
    case rel=>exact ⟨k+1,rfl,by omega,by omega,below_drewN hBr _,Lib.hid (HL.out.trans (by rw [hd.out,if_neg (by simp)]))⟩
    case measure=>simp [intOf];omega
   ·have hab:(a == b)=false:=by simp [e]
    have hab':(a != b)=true:=by simp [e]
    have hL:Hid (qbd A B=decide (a < b)):=Lib.hid (HL.out.trans (by rw [hd.out,if_pos e]))
    clear e
    go_wp2
    go_quiet (fail)
    go_wp2
    go_quiet (fail)
    go_wp2
    go_ret
    exact ⟨by rw [hL.out];rfl,below_drewN (below_drewN hBr _) _⟩
  ·have hE:=Lib.hid (HL.out.trans (HE.out k (by omega) hk1 hk2))
   by_cases l1:k < A.length
   ·have i1:(k:Int) < (A.length:Int):=by omega
    have i2:¬ (k:Int) < (B.length:Int):=by omega
    go_wp2
    go_ret
    refine ⟨?_,hBr⟩
    rw [hE.out];simp
   ·have i1:¬ (k:Int) < (A.length:Int):=by omega
    go_wp2
    go_ret
    refine ⟨?_,hBr⟩
    rw [hE.out];simp
set_option maxHeartbeats 1000000 in
theorem Ze (aa ab:Option Addr) (ca cb:Nat) (A B:List Int) (w:World) (ha:qh w 1 encI aa A) (hb:qh w 1 encI ab B) (h1:A.length≤100) (h2:B.length≤100) (hca:A.length≤ca) (hcb:B.length≤cb):Calls qj 11 #[.slice aa A.length ca,.slice ab B.length cb] w fun e w'=>e=.returned (.bool (decide (A=B)))∧Below w.heap.size w w':=by
 have hl1:=fun W (h:Below w.heap.size w W)=>YG aa ab ca cb A B W (ha.keep h) (hb.keep h) h1 h2 hca hcb
 have hl2:=fun W (h:Below w.heap.size w W)=>YG ab aa cb ca B A W (hb.keep h) (ha.keep h) h2 h1 hcb hca
 have hbo:=Lib.hid (Jc A B)
 clear ha hb
 cases h3:qbd A B with
 | true =>
   simp only [h3] at hl1 hbo
   go_enter (sf 11 f11),ntmps11
   go_wp2_with (go_at_call 43;refine (hl1 _ (by go_grown)).mono ?_;rintro e w1 ⟨rfl,hB1⟩)
   go_ret
   exact ⟨by rw [← hbo.out];rfl,hB1⟩
 | false =>
   simp only [h3] at hl1 hbo
   go_enter (sf 11 f11),ntmps11
   go_wp2_with (first | (go_at_call 43;(with_reducible refine (hl1 _ (.refl _ _)).mono ?_);rintro e w1 ⟨rfl,hB1⟩) | (go_at_call 43;(with_reducible refine (hl2 _ (by assumption)).mono ?_);rintro e w2 ⟨rfl,hB2⟩))
   go_ret
   exact ⟨by rw [← hbo.out];rfl,bcl hB1 hB2⟩
theorem spBand:qj.underlying 40=some (.struct (qj.fieldsOf 40)):=by kernel_rfl
theorem hpBand:qj.stoodInHeld 40=false:=by kernel_rfl
theorem eqb (d:Nat) (a b a' b':Int) (w:World):(Op.equalIn (d+2) 40 (.agg #[.int .i64 a,.int .i64 b]) (.agg #[.int .i64 a',.int .i64 b'])).run qj w=.ok (a == a' && b == b') w:=by
 rw [run_equalIn_agg w (d+1) 40 _ _ spBand hpBand]
 have e0:(Op.eqFields (d+1) #[.int .i64 a,.int .i64 b] #[.int .i64 a',.int .i64 b'] (qj.fieldsOf 40).toList).run qj w=(if (!(a == a'))=true then (pure false:Sem Bool) else Op.eqFields (d+1) #[.int .i64 a,.int .i64 b] #[.int .i64 a',.int .i64 b'] (qj.fieldsOf 40).toList.tail).run qj w:=by kernel_rfl
 rw [e0]
 cases h:(a == a') with
 | false=>simp
 | true =>
   have e1:(Op.eqFields (d+1) #[.int .i64 a,.int .i64 b] #[.int .i64 a',.int .i64 b'] (qj.fieldsOf 40).toList.tail).run qj w=(if (!(b == b'))=true then (pure false:Sem Bool) else pure true).run qj w:=by kernel_rfl
   simp only [Bool.not_true,Bool.false_eq_true,if_false]
   rw [e1]
   cases h:(b == b') <;> simp
@[go_sem] theorem eqb_run (a b a' b':Int) (w:World):(Op.equalIn 10000 40 (.agg #[.int .i64 a,.int .i64 b]) (.agg #[.int .i64 a',.int .i64 b'])).run qj w=.ok (a == a' && b == b') w:=eqb 9998 a b a' b' w
@[go_sem] theorem neqb_run (a b a' b':Int) (w:World):(binOp .neq 40 (.agg #[.int .i64 a,.int .i64 b]) (.agg #[.int .i64 a',.int .i64 b'])).run qj w=.ok (.bool (!(a == a' && b == b'))) w:=by
  rw [run_neq_struct,eqb_run];rfl
theorem hmBand:qj.eqGuardType qj.depth 40=false:=by kernel_rfl
@[go_sem] theorem guardb_run (op:BinOp) (p q:Operand) (xs ys:Array Value) (w:World):(eqGuard op 40 p q (.agg xs) (.agg ys)).run qj w=.ok () w:=run_eqGuard_agg w op _ p q xs ys hmBand
set_option maxHeartbeats 1000000 in
theorem to_any (a b:Int) (w:World):Calls qj 32 #[.int .i64 a,.int .i64 b] w fun e w'=>e=.returned (.agg #[.int .i64 a,.int .i64 b])∧Below w.heap.size w w':=by
 go_enter (sf 32 f32),ntmps32
 go_wp2
 exact bodyPost_ret (Qu results32 rfl (LoadR.load_2 ji xE (by go_cell) (by go_cell))) rfl ⟨rfl,(Below.refl _ w).alloc (Nat.le_refl _) _⟩
theorem zD {α:Type} {W:World} {a b k:Nat} {enc:α→List Value} {l:List α} {v0 v1 v2 v3 v4:Value} (h:qh W k enc (some ⟨a,0,none⟩) l) (e:a≠b):qh (set5 W b v0 v1 v2 v3 v4) k enc (some ⟨a,0,none⟩) l:=fun hl=>by
 obtain ⟨b',o',e',h⟩:=h hl
 cases e'
 exact ⟨_,_,rfl,fun i x hx j v hj=>(World.cell?_of_block (qez e)).trans (h i x hx j v hj)⟩
end Go.Proofs.Tryz
namespace Go.Proofs.Tryz
open Go Go.Load Go.LoadR Go.RowKit
def metK (os:List OrdM) (k:Nat):List (Int×Int):=((os.take k).map fun o=>(o.fr,o.toT)).reverse
theorem qdT {os:List OrdM} {k:Nat} {o:OrdM} (h:os[k]? = some o):metK os (k+1)=(o.fr,o.toT) :: metK os k:=by
 unfold metK
 rw [List.take_add_one,h]
 simp
theorem Ji {D:DayM} {k:Nat} {o:OrdM} (h:D.os[k]? = some o):jd D ⟨o.fr,o.toT,0,0,0⟩ < k↔(o.fr,o.toT)∈metK D.os k:=by
 obtain ⟨hk,rfl⟩:=List.getElem?_eq_some_iff.1 h
 unfold metK jd
 rw [List.mem_reverse,List.mem_map]
 constructor
 ·intro h
  cases hf:D.os.findIdx? (zY ⟨D.os[k].fr,D.os[k].toT,0,0,0⟩) with
  | none=>rw [hf] at h;simp only at h;omega
  | some i =>
    rw [hf] at h
    obtain ⟨hi,hp,_⟩:=List.findIdx?_eq_some_iff_getElem.1 hf
    simp only [zY,Bool.and_eq_true,beq_iff_eq] at hp
    exact ⟨D.os[i],List.mem_take_iff_getElem.2 ⟨i,by simp only at h;omega,rfl⟩,by rw [hp.1,hp.2]⟩
 ·rintro ⟨x,hx,he⟩
  obtain ⟨i,hi,rfl⟩:=List.mem_take_iff_getElem.1 hx
  simp only [Prod.mk.injEq] at he
  cases hf:D.os.findIdx? (zY ⟨D.os[k].fr,D.os[k].toT,0,0,0⟩) with
  | none =>
    rw [List.findIdx?_eq_none_iff] at hf
    have:=hf D.os[i] (List.getElem_mem _)
    simp [zY,he.1,he.2] at this
  | some j =>
    obtain ⟨hj,hp,hn⟩:=List.findIdx?_eq_some_iff_getElem.1 hf
    simp only
    refine Nat.lt_of_not_le fun hle=>?_
    have:=hn i (by omega)
    simp [zY,he.1,he.2] at this
set_option maxHeartbeats 8000000 in
set_option maxRecDepth 100000 in
theorem qar (D:DayM) (w:World) (h:DayAt w D) (hs:DaySm D) (hsmall:∀g∈D.gs,(0≤g.one∧g.one≤100)∧(0≤g.two∧g.two≤100)):Calls qj 63 #[dv D] w fun e w'=>e=.returned (.int .i64 (yV D))∧Below w.heap.size w w':=by
 have hos:=h.os
 have hsm:=hs.os
 have hlw:∀o:OrdM,o∈D.os→o.ws.length≤20∧o.ws.length≤o.c:=hs.ws
 have hwy:=fun (o:OrdM) (ho:o∈D.os) (x:WayM) (hx:x∈o.ws) W (hB:Below w.heap.size w W)=>rway_any D o x.l x.a x.c W (h.keep hB) hs hsmall (hs.ls o ho x hx) ((h.ls o ho x hx).keep hB)
 have hcb:=fun (o:OrdM) (ho:o∈D.os) (x:WayM) (hx:x∈o.ws) (y:WayM) (hy:y∈o.ws) W (hB:Below w.heap.size w W)=>Ze y.a x.a y.c x.c y.l x.l W ((h.ls o ho y hy).keep hB) ((h.ls o ho x hx).keep hB) (by have:=(hs.ls o ho y hy).1;omega) (by have:=(hs.ls o ho x hx).1;omega) (hs.ls o ho y hy).2 (hs.ls o ho x hx).2
 have hor:=fun c W (hB:Below w.heap.size w W)=>Zl D c W (h.keep hB) hs
 have hbf:=fun k o (hx:D.os[k]? = some o)=>Ji (D:=D) hx
 have hrw:=h.ws
 have hen:=fun one two=>Yk D.ta D.ts.length D.tc (by have:=hs.ts.1;omega) (.slice D.ga D.gs.length D.gc) (.slice D.oa D.os.length D.oc) (.slice D.ha D.hs.length D.hc) (.slice D.ca D.cs.length D.cc) one two
 obtain ⟨R,hR⟩:∃R,yV D=R:=⟨_,rfl⟩
 rw [hR]
 unfold yV at hR
 have hdr:=fun met k o (hx:D.os[k]? = some o)=>Qo D met hx
 have hnl:∀met q,q.length=0→yC D met q=0:=fun met q h=>by cases q with | nil=>rfl | cons _ _=>cases h
 have hoa:∀met o,qeg D met o=(if zJ D.ts.length o.fr o.toT≠0 then zJ D.ts.length o.fr o.toT else if (o.fr,o.toT)∈met then 5 else if 3 < o.ws.length then 2 else qY (XG D o) 0 o.ws):=fun _ _=>rfl
 have hwa:∀o i x,XG D o i x=(if qaA D o x.l≠0 then qaA D o x.l else if ((o.ws.take i).any fun y=>decide (x.l=y.l))=true then 5 else 0):=fun _ _ _=>rfl
 have HDR:=Lib.hid hdr
 have HNL:=Lib.hid hnl
 have HOA:=Lib.hid hoa
 have HWA:=Lib.hid hwa
 have HWY:=Lib.hid hwy
 have HCB:=Lib.hid hcb
 have HEN:=Lib.hid hen
 have HOS:=Lib.hid hos
 have HRW:=Lib.hid hrw
 have HLW:=Lib.hid hlw
 have HOR:=Lib.hid hor
 have HBF:=Lib.hid hbf
 clear hdr hnl hoa hwa hwy hcb hen hos hrw h hs hlw hor hbf hsmall
 unfold dv at *
 generalize yC D=OG at *
 generalize qeg D=OA at *
 generalize XG D=WT at *
 generalize qaA D=WA at *
 generalize jd D=IX at *
 obtain ⟨ts,ta,tc,gs,ga,gc,os,oa,oc,hs,ha,hc,cs,ca,cc⟩:=D
 simp only at *
 generalize Value.slice ta ts.length tc=x1 at *
 generalize Value.slice ga gs.length gc=x2 at *
 generalize Value.slice ha hs.length hc=x3 at *
 generalize Value.slice ca cs.length cc=x4 at *
 generalize ts.length=N at *
 by_cases hlen:6 < os.length
 ·simp [hlen] at hR
  subst hR
  clear HDR HNL HOA HWA HWY HCB HEN HOS HRW HLW HOR HBF
  go_enter (sf 63 f63),ntmps63
  go_wp2
  go_ret
  exact ⟨rfl,by go_grown⟩
 ·simp [hlen] at hR
  have HR:=Lib.hid hR
  clear hR
  go_enter (sf 63 f63),ntmps63
  obtain ⟨W,hW⟩:∃W,w.alloc (Obj.cells #[x1,x2,.slice oa os.length oc,x3,x4] 28)=W:=⟨_,rfl⟩
  have h5:B5 W w.heap.size x1 x2 (.slice oa os.length oc) x3 x4:=by subst hW;exact B5.new ..
  have hBW:Below w.heap.size w W:=by subst hW;go_grown
  have k1:=h5.c2
  go_wp2
  try rw [hW]
  clear hW k1
  go_loopw [3] (fun i wr=>∃k:Nat,i=.int .i64 k∧k≤os.length∧Below W.heap.size W wr∧Hid (OG (metK os k) (os.drop k)=R)) (fun i _=>os.length - (intOf i).toNat)
  case atStart=>exact ⟨0,rfl,by omega,Below.refl _ _,HR⟩
  case round =>
   obtain ⟨k,rfl,hk,hBr,HE⟩:=hrel
   obtain ⟨k0,k1,k2,k3,k4⟩:=h5.keep hBr
   have hBw:=bcl hBW hBr
   have hz0:w.heap.size < wr.heap.size:=by have:=lt_of_cell k0;simpa using this
   by_cases hlt:k < os.length
   ·obtain ⟨o,hx⟩:∃x,os[k]? = some x:=⟨os[k],by simp [hlt]⟩
    obtain ⟨ab,ao,rfl,hP⟩:=HOS.out (by omega)
    have hkc:(k:Int)≤(oc:Int):=by omega
    have c0:=qb _ hBw (hP k o hx 0 _ rfl)
    have c1:=qb _ hBw (hP k o hx 1 _ rfl)
    have c2:=qb _ hBw (hP k o hx 2 _ rfl)
    simp only [Nat.add_zero] at c0
    have hom:=List.mem_of_getElem? hx
    have hA:=HE.out
    rw [HDR.out _ _ _ hx,HOA.out,← qdT hx] at hA
    have hen:=HEN.out o.fr o.toT
    have hwy:=fun x hx=>HWY.out o hom x hx
    have hcb:=fun x hx=>HCB.out o hom x hx
    have hrw:=HRW.out o hom
    have hlw:=HLW.out o hom
    have hwa:=HWA.out o
    have hor:=HOR.out ⟨o.fr,o.toT,0,0,0⟩
    have hbf:=HBF.out k o hx
    clear hP hx HEN HWY HCB HRW HLW HWA HOA hom HOR HBF
    obtain ⟨fr,tw,ws,wa,wc⟩:=o
    simp only at *
    generalize zJ N fr tw=E at *
    generalize IX ⟨fr,tw,0,0,0⟩=I at *
    generalize metK os k=ps at *
    obtain ⟨R2,hR2⟩:∃r,qY (WT ⟨fr,tw,ws,wa,wc⟩) 0 ws=r:=⟨_,rfl⟩
    rw [hR2] at hA
    have HR2:=Lib.hid hR2
    have HA:=Lib.hid hA
    have HCB:=Lib.hid hcb
    have HWY:=Lib.hid hwy
    have HRW:=Lib.hid hrw
    have HWA:=Lib.hid hwa
    have HOR:=Lib.hid hor
    have HBF:=Lib.hid hbf
    clear hA hcb hwy hrw hwa hor hbf hR2
    go_upto_region 7 with fail
    obtain ⟨U,hU⟩:∃U,wr.alloc (Obj.cells #[.int .i64 fr,.int .i64 tw,.slice wa ws.length wc] 64)=U:=⟨_,rfl⟩
    have hBU:Below wr.heap.size wr U:=by subst hU;go_grown
    have q5:U.cell? ⟨wr.heap.size,0,none⟩=some (.int .i64 fr):=by subst hU;go_cell
    have q6:U.cell? ⟨wr.heap.size,1,none⟩=some (.int .i64 tw):=by subst hU;go_cell
    have q7:U.cell? ⟨wr.heap.size,2,none⟩=some (.slice wa ws.length wc):=by subst hU;go_cell
    rw [hU]
    clear hU c0 c1 c2
    have hBwU:=bcl hBw hBU
    have hBrU:=bcl hBr hBU
    have k0:=qb _ hBU k0
    have k1:=qb _ hBU k1
    have k2:=qb _ hBU k2
    have k3:=qb _ hBU k3
    have k4:=qb _ hBU k4
    clear hBU
    by_cases hE:E=0
    rotate_left 1
    ·have hne:(E != 0)=true:=by simpa using hE
     have HA2:=HA
     go_wp2_with (go_at_call 97;(with_reducible refine (hen _).mono ?_);rintro e w1 ⟨rfl,hB1⟩;have hBwU:=bcl hBwU hB1)
     go_ret
     exact ⟨by have e:=HA2.out;rw [if_pos hE,if_pos hE] at e;rw [← e];rfl,hBwU⟩
    subst hE
    go_upto_region 10 with (go_at_call 97;(with_reducible refine (hen _).mono ?_);rintro e w1 ⟨rfl,hB1⟩)
    have hBwU:=bcl hBwU hB1
    have hBrU:=bcl hBrU hB1
    replace k0:=qb _ hB1 k0
    replace k1:=qb _ hB1 k1
    replace k2:=qb _ hB1 k2
    replace k3:=qb _ hB1 k3
    replace k4:=qb _ hB1 k4
    replace q5:=qb _ hB1 q5
    replace q6:=qb _ hB1 q6
    replace q7:=qb _ hB1 q7
    clear hB1 hen
    have hA:=HA.out
    simp only [ne_eq,not_true_eq_false,if_false] at hA
    by_cases hin:(fr,tw)∈ps
    ·rw [if_pos hin] at hA
     have HA:=Lib.hid hA
     have hI:(I:Int) < (k:Int):=by have:=HBF.out.2 hin;omega
     clear hA hin
     go_wp2_with (go_at_call 60;(with_reducible refine (HOR.out _ hBwU).mono ?_);rintro e w2 ⟨rfl,hB2⟩)
     go_ret
     exact ⟨by have e:=HA.out;simp at e;rw [← e];rfl,bcl hBwU hB2⟩
    rw [if_neg hin] at hA
    have hI:¬ (I:Int) < (k:Int):=fun h=>hin (HBF.out.1 (by omega))
    clear hin
    by_cases hl3:3 < ws.length
    ·rw [if_pos hl3] at hA
     have HA:=Lib.hid hA
     clear hA
     go_upto_region 12 with (go_at_call 60;(with_reducible refine (HOR.out _ hBwU).mono ?_);rintro e w2 ⟨rfl,hB2⟩)
     have hBwU:=bcl hBwU hB2
     have q7:=qb _ hB2 q7
     clear hI
     go_wp2
     go_ret
     exact ⟨by have e:=HA.out;simp at e;rw [← e];rfl,hBwU⟩
    rw [if_neg hl3] at hA
    have HA:=Lib.hid hA
    clear hA
    go_upto_region 12 with (go_at_call 60;(with_reducible refine (HOR.out _ hBwU).mono ?_);rintro e w2 ⟨rfl,hB2⟩)
    have hBwU:=bcl hBwU hB2
    have hBrU:=bcl hBrU hB2
    replace k0:=qb _ hB2 k0
    replace k1:=qb _ hB2 k1
    replace k2:=qb _ hB2 k2
    replace k3:=qb _ hB2 k3
    replace k4:=qb _ hB2 k4
    replace q5:=qb _ hB2 q5
    replace q6:=qb _ hB2 q6
    replace q7:=qb _ hB2 q7
    clear hB2 hI
    go_wp2
    have hwsl:ws.length≤3:=by omega
    have hII:decide (I < k)=false:=decide_eq_false (by omega)
    try rw [hII]
    clear hII
    obtain ⟨V,hV⟩:∃V,V=wr:=⟨_,rfl⟩
    subst hV
    obtain ⟨W2,hW2⟩:∃W2,W2=w2:=⟨_,rfl⟩
    subst hW2
    go_loopw [6] (fun i wr=>∃j:Nat,i=.int .i64 j∧j≤ws.length∧Below W2.heap.size W2 wr∧Hid (qY (WT ⟨fr,tw,ws,wa,wc⟩) j (ws.drop j)=R2)) (fun i _=>ws.length - (intOf i).toNat)
    case atStart=>exact ⟨0,rfl,by omega,Below.refl _ _,HR2⟩
    case round =>
     obtain ⟨j,rfl,hj,hBr2,HF⟩:=hrel
     replace k0:=qb _ hBr2 k0
     replace k1:=qb _ hBr2 k1
     replace k2:=qb _ hBr2 k2
     replace k3:=qb _ hBr2 k3
     replace k4:=qb _ hBr2 k4
     replace q5:=qb _ hBr2 q5
     replace q6:=qb _ hBr2 q6
     replace q7:=qb _ hBr2 q7
     have hBy:=bcl hBwU hBr2
     have hBz:=bcl hBrU hBr2
     by_cases hlj:j < ws.length
     ·obtain ⟨x,hx⟩:∃x,ws[j]? = some x:=⟨ws[j],by simp [hlj]⟩
      obtain ⟨bb,bo,rfl,hP⟩:=HRW.out (by show 1≤ws.length;omega)
      have hjc:(j:Int)≤(wc:Int):=by have:=hlw.2;omega
      have hji:(j:Int) < (ws.length:Int):=by omega
      have d0:=qb _ hBy (hP j x hx 0 _ rfl)
      simp only [Nat.mul_one,Nat.add_zero] at d0
      have HX:=Lib.hid hx
      have HD0:=Lib.hid (fun (i:Nat) (y:WayM) (hy:ws[i]? = some y)=>hP i y hy 0 _ rfl)
      have hF:=HF.out
      rw [zB _ hx,HWA.out] at hF
      have hwy:=HWY.out x (List.mem_of_getElem? hx)
      have hcb:=fun y hy=>HCB.out x (List.mem_of_getElem? hx) y hy
      clear hP hx
      try simp only at hwy
      try simp only at hcb
      try simp only at hF
      generalize WA ⟨fr,tw,ws,some ⟨bb,bo,none⟩,wc⟩ x.l=A at *
      have HF:=Lib.hid hF
      have HWX:=Lib.hid hwy
      have HCX:=Lib.hid hcb
      clear hF hwy hcb
      have hS0:RH9 wr ⟨w.heap.size,0,none⟩ ⟨w.heap.size,1,none⟩ ⟨w.heap.size,2,none⟩ ⟨w.heap.size,3,none⟩ ⟨w.heap.size,4,none⟩ ⟨V.heap.size,0,none⟩ ⟨V.heap.size,1,none⟩ ⟨V.heap.size,2,none⟩ ⟨bb,bo+j,none⟩ x1 x2 (.slice (some ⟨ab,ao,none⟩) os.length oc) x3 x4 (.int .i64 fr) (.int .i64 tw) (.slice (some ⟨bb,bo,none⟩) ws.length wc) (.slice x.a x.l.length x.c) wr:=⟨k0,k1,k2,k3,k4,q5,q6,q7,d0,Below.refl _ _⟩
      go_upto_region 17 with fail
      refine wp_region_held_drew (S:=(RH9 wr ⟨w.heap.size,0,none⟩ ⟨w.heap.size,1,none⟩ ⟨w.heap.size,2,none⟩ ⟨w.heap.size,3,none⟩ ⟨w.heap.size,4,none⟩ ⟨V.heap.size,0,none⟩ ⟨V.heap.size,1,none⟩ ⟨V.heap.size,2,none⟩ ⟨bb,bo+j,none⟩ x1 x2 (.slice (some ⟨ab,ao,none⟩) os.length oc) x3 x4 (.int .i64 fr) (.int .i64 tw) (.slice (some ⟨bb,bo,none⟩) ws.length wc) (.slice x.a x.l.length x.c))) (by kernel_rfl) (by exact RHL.drew hS0) (fun hHeld=>?_)
      (refine tk 0 ?_;try simp only [zs,Act.put])
      (refine tk 1 ?_;try simp only [zs,Act.put])
      (refine tk 2 ?_;try simp only [zs,Act.put])
      (refine tk 3 ?_;try simp only [zs,Act.put])
      (refine tk 4 ?_;try simp only [zs,Act.put])
      (refine tk 5 ?_;try simp only [zs,Act.put])
      (refine tk 6 ?_;try simp only [zs,Act.put])
      (refine tk 7 ?_;try simp only [zs,Act.put])
      (refine tk 8 ?_;try simp only [zs,Act.put])
      (refine tk 9 ?_;try simp only [zs,Act.put])
      refine wpAnyH_ready (rs:=[10]) (by kernel_rfl) (by simp) ?_;refine AllReadyH.cons rfl (fun K hK=>?_) AllReadyH.nil;go_simp;go_wp2_with (go_at_call 99;(with_reducible refine (HWX.out _ (bcl hBy (RHL.bel hHeld))).mono ?_);rintro e w3 ⟨rfl,hB3⟩);refine hK.out _ _ (by exact RHL.call hHeld hB3) (fun hHeldN=>?_);clear hK K hHeld;have hHeld:=hHeldN;clear hHeldN;try simp only [zs,Act.put]
      (refine tk 11 ?_;try simp only [zs,Act.put])
      refine wpAnyH_done (by kernel_rfl) ?_ _;try simp only [zs,Act.put]
      have hB4:=RHL.bel hHeld
      clear hHeld hS0 hB3
      have hBy3:=bcl hBy hB4
      have hBz3:=bcl hBz hB4
      have hBr3:=bcl hBr2 hB4
      replace k0:=qb _ hB4 k0
      replace k1:=qb _ hB4 k1
      replace k2:=qb _ hB4 k2
      replace k3:=qb _ hB4 k3
      replace k4:=qb _ hB4 k4
      replace q5:=qb _ hB4 q5
      replace q6:=qb _ hB4 q6
      replace q7:=qb _ hB4 q7
      clear hB4 d0
      by_cases hA0:A=0
      rotate_left 1
      ·have hne2:(A != 0)=true:=by simpa using hA0
       go_wp2
       go_ret
       exact ⟨by have e:=HF.out
                 rw [if_pos hA0,if_pos hA0] at e;have e2:=HA.out;rw [← e,if_pos hA0] at e2;rw [← e2];rfl,hBy3⟩
      subst hA0
      go_upto_region 20 with fail
      go_wp2
      obtain ⟨V3,hV3⟩:∃V3,V3=w3:=⟨_,rfl⟩
      subst hV3
      obtain ⟨wo,hwo⟩:∃X,X=wr:=⟨_,rfl⟩
      subst hwo
      go_loopw [8] (fun i wr=>∃m:Nat,i=.int .i64 m∧m≤j∧Below V3.heap.size V3 wr∧Hid (∀(i:Nat) (y:WayM),i < m→ws[i]? = some y→¬ x.l=y.l)) (fun i _=>j - (intOf i).toNat)
      case atStart=>exact ⟨0,rfl,by omega,Below.refl _ _,Lib.hid fun i y hi=>absurd hi (Nat.not_lt_zero _)⟩
      case round =>
       obtain ⟨m,rfl,hm,hBr4,HM⟩:=hrel
       replace k0:=qb _ hBr4 k0
       replace k1:=qb _ hBr4 k1
       replace k2:=qb _ hBr4 k2
       replace k3:=qb _ hBr4 k3
       replace k4:=qb _ hBr4 k4
       replace q5:=qb _ hBr4 q5
       replace q6:=qb _ hBr4 q6
       replace q7:=qb _ hBr4 q7
       have hBy4:=bcl hBy3 hBr4
       by_cases hmj:m < j
       ·obtain ⟨y,hy⟩:∃y,ws[m]? = some y:=⟨ws[m]'(by omega),List.getElem?_eq_getElem _⟩
        have e0:=qb _ hBy4 (HD0.out m y hy)
        have e1:=qb _ hBy4 (HD0.out j x HX.out)
        simp only [Nat.mul_one,Nat.add_zero] at e0 e1
        have hmc:(m:Int)≤(wc:Int):=by omega
        have hmi:(m:Int) < (ws.length:Int):=by omega
        have hmj2:(m:Int) < (j:Int):=by omega
        have hsn:=HCX.out y (List.mem_of_getElem? hy)
        have HMM:=fun (hne:¬ x.l=y.l)=>(Lib.hid (fun (i:Nat) (y':WayM) (hi:i < m+1) (hy':ws[i]? = some y')=>by
         rcases Nat.lt_succ_iff_lt_or_eq.1 hi with h1 | rfl
         ·exact HM.out i y' h1 hy'
         ·rw [hy] at hy';cases hy';exact hne):Hid (∀(i:Nat) (y':WayM),i < m+1→ws[i]? = some y'→¬ x.l=y'.l))
        have hany:y.l=x.l→((ws.take j).any fun y=>decide (x.l=y.l))=true:=fun h=>List.any_eq_true.2 ⟨y,List.mem_take_iff_getElem.2 ⟨m,by omega,(List.getElem?_eq_some_iff.1 hy).2⟩,by simp [h]⟩
        have HSN:=Lib.hid hsn
        have HAN:=Lib.hid hany
        have HMS:=Lib.hid HMM
        have hdec:∀q,decide (y.l=x.l)=q→(q=true→y.l=x.l)∧(q=false→¬ x.l=y.l):=fun q h=>by subst h;exact ⟨fun h=>by simpa using h,fun h e=>by simp [e] at h⟩
        obtain ⟨q,hq⟩:∃q,decide (y.l=x.l)=q:=⟨_,rfl⟩
        have HDC:=Lib.hid (hdec q hq)
        simp only [hq] at HSN
        clear hsn hany HMM hdec hq hy
        have hS1:RH3 wr ⟨V.heap.size,2,none⟩ ⟨bb,bo+m,none⟩ ⟨bb,bo+j,none⟩ (.slice (some ⟨bb,bo,none⟩) ws.length wc) (.slice y.a y.l.length y.c) (.slice x.a x.l.length x.c) wr:=⟨q7,e0,e1,Below.refl _ _⟩
        go_upto_region 23 with fail
        refine wp_region_held_drew (S:=(RH3 wr ⟨V.heap.size,2,none⟩ ⟨bb,bo+m,none⟩ ⟨bb,bo+j,none⟩ (.slice (some ⟨bb,bo,none⟩) ws.length wc) (.slice y.a y.l.length y.c) (.slice x.a x.l.length x.c))) (by kernel_rfl) (by exact RHL.drew hS1) (fun hHeld=>?_)
        (refine tk 0 ?_;try simp only [zs,Act.put])
        (refine tk 1 ?_;try simp only [zs,Act.put])
        (refine tk 2 ?_;try simp only [zs,Act.put])
        (refine tk 3 ?_;try simp only [zs,Act.put])
        (refine tk 4 ?_;try simp only [zs,Act.put])
        (refine tk 5 ?_;try simp only [zs,Act.put])
        (refine tk 6 ?_;try simp only [zs,Act.put])
        (refine tk 7 ?_;try simp only [zs,Act.put])
        (refine tk 8 ?_;try simp only [zs,Act.put])
        (refine tk 9 ?_;try simp only [zs,Act.put])
        refine wpAnyH_ready (rs:=[10]) (by kernel_rfl) (by simp) ?_;refine AllReadyH.cons rfl (fun K hK=>?_) AllReadyH.nil;go_simp;go_wp2_with (go_at_call 11;(with_reducible refine (HSN.out _ (bcl hBy4 (RHL.bel hHeld))).mono ?_);rintro e w4 ⟨rfl,hB3⟩);refine hK.out _ _ (by exact RHL.call hHeld hB3) (fun hHeldN=>?_);clear hK K hHeld;have hHeld:=hHeldN;clear hHeldN;try simp only [zs,Act.put]
        refine wpAnyH_done (by kernel_rfl) ?_ _;try simp only [zs,Act.put]
        have hB4:=RHL.bel hHeld
        clear hHeld hS1 hB3 e0 e1
        have hBy5:=bcl hBy4 hB4
        have hBr5:=bcl hBr4 hB4
        clear hB4
        cases q with
        | true =>
          have h5:=HAN.out (HDC.out.1 rfl)
          have hF:=HF.out
          rw [h5] at hF
          have HF:=Lib.hid hF
          clear hF h5
          go_wp2
          go_ret
          exact ⟨by have e:=HF.out;simp at e;have e2:=HA.out;rw [← e] at e2;simp at e2;rw [← e2];rfl,hBy5⟩
        | false =>
          have HM2:=HMS.out (HDC.out.2 rfl)
          go_wp2
          go_roundw
          case rel=>exact ⟨m+1,rfl,by omega,hBr5,HM2⟩
          case measure=>simp [intOf];omega
       ·obtain rfl:m=j:=by omega
        have hany:((ws.take m).any fun y=>decide (x.l=y.l))=false:=by
         rw [List.any_eq_false]
         intro y hy
         obtain ⟨i,hi,rfl⟩:=List.mem_take_iff_getElem.1 hy
         have:=HM.out i _ (by omega) (List.getElem?_eq_getElem (by omega))
         simpa using this
        have hF:=HF.out
        rw [hany] at hF
        have HF:=Lib.hid hF
        clear hF hany
        have hBr6:=bcl hBr3 hBr4
        obtain ⟨X,hX⟩:∃X,X=wr:=⟨_,rfl⟩
        subst hX
        go_wp2
        go_roundw
        case rel=>exact ⟨m+1,rfl,by omega,hBr6,Lib.hid (by simpa using HF.out)⟩
        case measure=>simp [intOf];omega
     ·obtain rfl:j=ws.length:=by omega
      have hF:=HF.out
      rw [List.drop_eq_nil_of_le (Nat.le_refl _)] at hF
      have hF0:R2=0:=hF.symm
      have hA:=HA.out
      rw [hF0] at hA
      have HA:=Lib.hid hA
      clear hF hA
      obtain ⟨X,hX⟩:∃X,X=wr:=⟨_,rfl⟩
      subst hX
      go_wp2
      go_roundw
      case rel=>exact ⟨k+1,rfl,by omega,hBz,Lib.hid (by simpa using HA.out)⟩
      case measure=>simp [intOf];omega
   ·obtain rfl:k=os.length:=by omega
    have hA:=HE.out
    rw [HNL.out _ _ (by simp)] at hA
    have HA:=Lib.hid hA
    clear hA
    go_wp2
    go_ret
    exact ⟨by rw [← HA.out];rfl,hBw⟩
theorem small_of {D:DayM} (hs:DaySm D) (h:zS D=0):∀g∈D.gs,(0≤g.one∧g.one≤100)∧(0≤g.two∧g.two≤100):=fun g hg=>by
 unfold zS at h
 by_cases hl:4 < D.gs.length
 ·rw [if_pos hl] at h;cases h
 ·rw [if_neg hl] at h
  obtain ⟨_,hz⟩:=yB _ _ _ h g hg
  have htl:=hs.ts.1
  unfold grpA at hz
  by_cases he:zJ D.ts.length g.one g.two=0
  ·unfold zJ at he
   by_cases hb:(btw g.one 0 (D.ts.length - 1) && btw g.two 0 (D.ts.length - 1))=false
   ·rw [if_pos hb] at he;cases he
   ·simp only [Bool.not_eq_false,Bool.and_eq_true,zM] at hb
    omega
  ·rw [if_pos he] at hz;exact absurd hz he
set_option maxHeartbeats 4000000 in
set_option maxRecDepth 100000 in
theorem Qs (D:DayM) (w:World) (h:DayAt w D) (hs:DaySm D):Calls qj 23 #[dv D] w fun e w'=>e=.returned (.int .i64 (checkN D))∧Below w.heap.size w w':=by
 have h0:=fun W (hB:Below w.heap.size w W)=>qcp D W (h.keep hB) hs
 have h1:=fun W (hB:Below w.heap.size w W)=>qap D W (h.keep hB) hs
 have h2:=fun (hg:zS D=0) W (hB:Below w.heap.size w W)=>qar D W (h.keep hB) hs (small_of hs hg)
 have h3:=fun W (hB:Below w.heap.size w W)=>qcm D W (h.keep hB) hs
 have h4:=fun W (hB:Below w.heap.size w W)=>qch D W (h.keep hB) hs
 unfold checkN
 generalize jN D=a0 at *
 generalize zS D=a1 at *
 generalize yV D=a2 at *
 generalize xR D=a3 at *
 generalize xX D=a4 at *
 unfold dv at *
 clear h hs
 obtain ⟨ts,ta,tc,gs,ga,gc,os,oa,oc,hs,ha,hc,cs,ca,cc⟩:=D
 simp only at *
 obtain ⟨W,hW⟩:∃W,w.alloc (Obj.cells #[.slice ta ts.length tc,.slice ga gs.length gc,.slice oa os.length oc,.slice ha hs.length hc,.slice ca cs.length cc] 28)=W:=⟨_,rfl⟩
 have h5:B5 W w.heap.size (.slice ta ts.length tc) (.slice ga gs.length gc) (.slice oa os.length oc) (.slice ha hs.length hc) (.slice ca cs.length cc):=by subst hW;exact B5.new ..
 have hBw:Below w.heap.size w W:=by subst hW;go_grown
 obtain ⟨k0,k1,k2,k3,k4⟩:=h5
 have H0:=Lib.hid h0
 have H1:=Lib.hid h1
 have H2:=Lib.hid h2
 have H3:=Lib.hid h3
 have H4:=Lib.hid h4
 clear h0 h1 h2 h3 h4
 obtain ⟨R,hR⟩:∃R,(if a0≠0 then a0 else if a1≠0 then a1 else if a2≠0 then a2 else if a3≠0 then a3 else a4)=R:=⟨_,rfl⟩
 rw [hR]
 have HR:=Lib.hid hR
 clear hR
 go_enter (sf 23 f23),ntmps23
 go_upto_region 1 with fail
 try rw [hW]
 clear hW
 by_cases za0:a0=0
 rotate_left 1
 ·have hne:(a0 != 0)=true:=by simpa using za0
  have hR:=HR.out
  rw [if_pos (by simpa using za0)] at hR
  have HR2:=Lib.hid hR
  clear hR za0
  go_wp2_with (go_at_call 61;(with_reducible refine (H0.out _ hBw).mono ?_);rintro e w1 ⟨rfl,hB1⟩;replace k0:=qb _ hB1 k0;replace k1:=qb _ hB1 k1;replace k2:=qb _ hB1 k2;replace k3:=qb _ hB1 k3;replace k4:=qb _ hB1 k4;replace hBw:=bcl hBw hB1;clear hB1)
  go_ret
  exact ⟨by rw [← HR2.out];rfl,hBw⟩
 subst za0
 replace HR:=Lib.hid (HR.out.symm.trans (if_neg (by simp))).symm
 skip
 go_upto_region 4 with (go_at_call 61;(with_reducible refine (H0.out _ hBw).mono ?_);rintro e w1 ⟨rfl,hB1⟩;replace k0:=qb _ hB1 k0;replace k1:=qb _ hB1 k1;replace k2:=qb _ hB1 k2;replace k3:=qb _ hB1 k3;replace k4:=qb _ hB1 k4;replace hBw:=bcl hBw hB1;clear hB1)
 by_cases za1:a1=0
 rotate_left 1
 ·have hne:(a1 != 0)=true:=by simpa using za1
  have hR:=HR.out
  rw [if_pos (by simpa using za1)] at hR
  have HR2:=Lib.hid hR
  clear hR za1
  go_wp2_with (go_at_call 62;(with_reducible refine (H1.out _ hBw).mono ?_);rintro e w1 ⟨rfl,hB1⟩;replace k0:=qb _ hB1 k0;replace k1:=qb _ hB1 k1;replace k2:=qb _ hB1 k2;replace k3:=qb _ hB1 k3;replace k4:=qb _ hB1 k4;replace hBw:=bcl hBw hB1;clear hB1)
  go_ret
  exact ⟨by rw [← HR2.out];rfl,hBw⟩
 subst za1
 replace HR:=Lib.hid (HR.out.symm.trans (if_neg (by simp))).symm
 replace H2:=Lib.hid (H2.out rfl)
 go_upto_region 7 with (go_at_call 62;(with_reducible refine (H1.out _ hBw).mono ?_);rintro e w1 ⟨rfl,hB1⟩;replace k0:=qb _ hB1 k0;replace k1:=qb _ hB1 k1;replace k2:=qb _ hB1 k2;replace k3:=qb _ hB1 k3;replace k4:=qb _ hB1 k4;replace hBw:=bcl hBw hB1;clear hB1)
 by_cases za2:a2=0
 rotate_left 1
 ·have hne:(a2 != 0)=true:=by simpa using za2
  have hR:=HR.out
  rw [if_pos (by simpa using za2)] at hR
  have HR2:=Lib.hid hR
  clear hR za2
  go_wp2_with (go_at_call 63;(with_reducible refine (H2.out _ hBw).mono ?_);rintro e w1 ⟨rfl,hB1⟩;replace k0:=qb _ hB1 k0;replace k1:=qb _ hB1 k1;replace k2:=qb _ hB1 k2;replace k3:=qb _ hB1 k3;replace k4:=qb _ hB1 k4;replace hBw:=bcl hBw hB1;clear hB1)
  go_ret
  exact ⟨by rw [← HR2.out];rfl,hBw⟩
 subst za2
 replace HR:=Lib.hid (HR.out.symm.trans (if_neg (by simp))).symm
 skip
 go_upto_region 10 with (go_at_call 63;(with_reducible refine (H2.out _ hBw).mono ?_);rintro e w1 ⟨rfl,hB1⟩;replace k0:=qb _ hB1 k0;replace k1:=qb _ hB1 k1;replace k2:=qb _ hB1 k2;replace k3:=qb _ hB1 k3;replace k4:=qb _ hB1 k4;replace hBw:=bcl hBw hB1;clear hB1)
 by_cases za3:a3=0
 rotate_left 1
 ·have hne:(a3 != 0)=true:=by simpa using za3
  have hR:=HR.out
  rw [if_pos (by simpa using za3)] at hR
  have HR2:=Lib.hid hR
  clear hR za3
  go_wp2_with (go_at_call 64;(with_reducible refine (H3.out _ hBw).mono ?_);rintro e w1 ⟨rfl,hB1⟩;replace k0:=qb _ hB1 k0;replace k1:=qb _ hB1 k1;replace k2:=qb _ hB1 k2;replace k3:=qb _ hB1 k3;replace k4:=qb _ hB1 k4;replace hBw:=bcl hBw hB1;clear hB1)
  go_ret
  exact ⟨by rw [← HR2.out];rfl,hBw⟩
 subst za3
 replace HR:=Lib.hid (HR.out.symm.trans (if_neg (by simp))).symm
 skip
 go_upto_region 13 with (go_at_call 64;(with_reducible refine (H3.out _ hBw).mono ?_);rintro e w1 ⟨rfl,hB1⟩;replace k0:=qb _ hB1 k0;replace k1:=qb _ hB1 k1;replace k2:=qb _ hB1 k2;replace k3:=qb _ hB1 k3;replace k4:=qb _ hB1 k4;replace hBw:=bcl hBw hB1;clear hB1)
 go_wp2_with (go_at_call 65;(with_reducible refine (H4.out _ hBw).mono ?_);rintro e w1 ⟨rfl,hB1⟩;replace k0:=qb _ hB1 k0;replace k1:=qb _ hB1 k1;replace k2:=qb _ hB1 k2;replace k3:=qb _ hB1 k3;replace k4:=qb _ hB1 k4;replace hBw:=bcl hBw hB1;clear hB1)
 go_ret
 exact ⟨by rw [← HR.out];rfl,hBw⟩
def Zj (D:DayM):Bool:=decide (20 < D.ts.length) || decide (20 < D.gs.length) || decide (20 < D.os.length) || decide (20 < D.hs.length) || decide (20 < D.cs.length) || (D.ts.any fun s=>decide (100 < s.size)) || (D.os.any fun o=>decide (20 < o.ws.length) || o.ws.any fun x=>decide (20 < x.l.length))
structure DayCap (D:DayM):Prop where
 ts:D.ts.length≤D.tc
 gs:D.gs.length≤D.gc
 os:D.os.length≤D.oc
 ws:∀o∈D.os,o.ws.length≤o.c
 ls:∀o∈D.os,∀x∈o.ws,x.l.length≤x.c
 hs:D.hs.length≤D.hc
 cs:D.cs.length≤D.cc
theorem qaW {D:DayM} (h:Zj D=false) (hc:DayCap D):DaySm D:=by
 unfold Zj at h
 simp only [Bool.or_eq_false_iff,decide_eq_false_iff_not,List.any_eq_false,Bool.or_eq_true,decide_eq_true_eq,not_or,List.any_eq_true,not_exists,not_and] at h
 obtain ⟨⟨⟨⟨⟨⟨a,b⟩,c⟩,d⟩,e⟩,f⟩,g⟩:=h
 exact ⟨⟨by omega,hc.ts⟩,fun s hs=>by have:=f s hs;omega,⟨by omega,hc.gs⟩,⟨by omega,hc.os⟩,fun o ho=>⟨by have:=(g o ho).1;omega,hc.ws o ho⟩,fun o ho x hx=>⟨by have:=(g o ho).2 x hx;omega,hc.ls o ho x hx⟩,⟨by omega,hc.hs⟩,⟨by omega,hc.cs⟩⟩
set_option maxHeartbeats 4000000 in
set_option maxRecDepth 100000 in
theorem qcD (D:DayM) (w:World) (h:DayAt w D) (hcap:DayCap D):Calls qj 7 #[dv D] w fun e w'=>e=.returned (.bool (Zj D))∧Below w.heap.size w w':=by
 have hts:=h.ts
 have hos:=h.os
 have hws:=h.ws
 have ct:=hcap.ts
 have co:=hcap.os
 have cw:=hcap.ws
 obtain ⟨R,hR⟩:∃R,Zj D=R:=⟨_,rfl⟩
 rw [hR]
 unfold Zj at hR
 unfold dv
 clear h hcap
 obtain ⟨ts,ta,tc,gs,ga,gc,os,oa,oc,hs,ha,hc,cs,ca,cc⟩:=D
 simp only at *
 have HT:=Lib.hid hts
 have HO:=Lib.hid hos
 have HW:=Lib.hid hws
 have HCW:=Lib.hid cw
 have HR:=Lib.hid hR
 clear hts hos hws cw hR
 go_enter (sf 7 f7),ntmps7
 obtain ⟨W,hW⟩:∃W,w.alloc (Obj.cells #[.slice ta ts.length tc,.slice ga gs.length gc,.slice oa os.length oc,.slice ha hs.length hc,.slice ca cs.length cc] 28)=W:=⟨_,rfl⟩
 have h5:B5 W w.heap.size (.slice ta ts.length tc) (.slice ga gs.length gc) (.slice oa os.length oc) (.slice ha hs.length hc) (.slice ca cs.length cc):=by subst hW;exact B5.new ..
 have hBw:Below w.heap.size w W:=by subst hW;go_grown
 obtain ⟨k0,k1,k2,k3,k4⟩:=h5
 go_upto_region 1 with fail
 try rw [hW]
 clear hW
 by_cases lt:20 < ts.length
 ·have hi:(20:Int) < (ts.length:Int):=by omega
  have hz:true=R:=by rw [← HR.out];simp [lt]
  subst hz
  go_wp2
  go_ret
  exact ⟨rfl,hBw⟩
 have it:¬ (20:Int) < (ts.length:Int):=by omega
 by_cases lg:20 < gs.length
 ·have hi:(20:Int) < (gs.length:Int):=by omega
  have hz:true=R:=by rw [← HR.out];simp [lg]
  subst hz
  go_wp2
  go_ret
  exact ⟨rfl,hBw⟩
 have ig:¬ (20:Int) < (gs.length:Int):=by omega
 by_cases lo:20 < os.length
 ·have hi:(20:Int) < (os.length:Int):=by omega
  have hz:true=R:=by rw [← HR.out];simp [lo]
  subst hz
  go_wp2
  go_ret
  exact ⟨rfl,hBw⟩
 have io:¬ (20:Int) < (os.length:Int):=by omega
 by_cases lh:20 < hs.length
 ·have hi:(20:Int) < (hs.length:Int):=by omega
  have hz:true=R:=by rw [← HR.out];simp [lh]
  subst hz
  go_wp2
  go_ret
  exact ⟨rfl,hBw⟩
 have ih:¬ (20:Int) < (hs.length:Int):=by omega
 by_cases lc:20 < cs.length
 ·have hi:(20:Int) < (cs.length:Int):=by omega
  have hz:true=R:=by rw [← HR.out];simp [lc]
  subst hz
  go_wp2
  go_ret
  exact ⟨rfl,hBw⟩
 have ic:¬ (20:Int) < (cs.length:Int):=by omega
 go_upto_region 4 with fail
 clear it ig io ih ic
 have HR2:Hid ((ts.any fun s=>decide (100 < s.size))=true→true=R):=Lib.hid fun h=>by rw [← HR.out,h];simp
 have HR3:Hid ((os.any fun o=>decide (20 < o.ws.length) || o.ws.any fun x=>decide (20 < x.l.length))=true→true=R):=Lib.hid fun h=>by rw [← HR.out,h];simp
 have HR4:Hid ((ts.any fun s=>decide (100 < s.size))=false→(os.any fun o=>decide (20 < o.ws.length) || o.ws.any fun x=>decide (20 < x.l.length))=false→false=R):=Lib.hid fun h1 h2=>by rw [← HR.out,h1,h2];simp;omega
 have lo:=lo
 clear HR lg lh lc
 go_loopw [3] (fun i wr=>∃k:Nat,i=.int .i64 k∧k≤ts.length∧wr=W∧Hid (∀(j:Nat) s,j < k→ts[j]? = some s→decide (100 < s.size)=false)) (fun i _=>ts.length - (intOf i).toNat)
 case atStart=>exact ⟨0,rfl,Nat.zero_le _,rfl,Lib.hid fun j s hj=>absurd hj (Nat.not_lt_zero _)⟩
 case round =>
  obtain ⟨k,rfl,hk,hwr,HK⟩:=hrel
  have hwr:=hwr.symm
  subst hwr
  by_cases hlt:k < ts.length
  ·obtain ⟨s,hx⟩:∃x,ts[k]? = some x:=⟨ts[k],by simp [hlt]⟩
   obtain ⟨b,o,rfl,hP⟩:=HT.out (by omega)
   have hkc:(k:Int)≤(tc:Int):=by omega
   have hki:(k:Int) < (ts.length:Int):=by omega
   have c0:=qb _ hBw (hP k s hx 0 _ rfl)
   simp only [Nat.mul_one,Nat.add_zero] at c0
   have HM:=Lib.hid (List.mem_of_getElem? hx)
   have HNX:=fun h=>(Lib.hid (fun (j:Nat) (y:ByteArray) (hj:j < k+1) (hy:ts[j]? = some y)=>by
    rcases Nat.lt_succ_iff_lt_or_eq.1 hj with h1 | rfl
    ·exact HK.out j y h1 hy
    ·rw [hx] at hy;cases hy;exact h):Hid (∀(j:Nat) (y:ByteArray),j < k+1→ts[j]? = some y→decide (100 < y.size)=false))
   clear hP hx
   by_cases hbig:100 < s.size
   ·have hi:(100:Int) < (s.size:Int):=by omega
    have hz:=HR2.out (List.any_eq_true.2 ⟨s,HM.out,by simpa using hbig⟩)
    subst hz
    go_wp2
    go_ret
    exact ⟨rfl,hBw⟩
   ·have hi:¬ (100:Int) < (s.size:Int):=by omega
    have HN2:=HNX (by simpa using hbig)
    clear HNX
    go_wp2
    go_roundw
    case rel=>exact ⟨k+1,rfl,by omega,(by first | rfl | trivial),HN2⟩
    case measure=>simp [intOf];omega
  ·obtain rfl:k=ts.length:=by omega
   have hta:(ts.any fun s=>decide (100 < s.size))=false:=by
    rw [List.any_eq_false]
    intro s hs
    obtain ⟨j,hj,rfl⟩:=List.getElem_of_mem hs
    have:=HK.out j _ hj (List.getElem?_eq_getElem hj)
    simpa using this
   have HR5:=Lib.hid (HR4.out hta)
   clear HK HR2 HR4 hta hk hlt
   go_wp2
   go_loopw [4] (fun i wr=>∃k:Nat,i=.int .i64 k∧k≤os.length∧wr=W∧Hid (∀(j:Nat) o,j < k→os[j]? = some o→(decide (20 < o.ws.length) || o.ws.any fun x=>decide (20 < x.l.length))=false)) (fun i _=>os.length - (intOf i).toNat)
   case atStart=>exact ⟨0,rfl,Nat.zero_le _,rfl,Lib.hid fun j s hj=>absurd hj (Nat.not_lt_zero _)⟩
   case round =>
    obtain ⟨k,rfl,hk,hwr,HK⟩:=hrel
    have hwr:=hwr.symm
    subst hwr
    by_cases hlt:k < os.length
    ·obtain ⟨x,hx⟩:∃x,os[k]? = some x:=⟨os[k],by simp [hlt]⟩
     obtain ⟨b,o,rfl,hP⟩:=HO.out (by omega)
     have hkc:(k:Int)≤(oc:Int):=by omega
     have hki:(k:Int) < (os.length:Int):=by omega
     have c2:=qb _ hBw (hP k x hx 2 _ rfl)
     have HM:=Lib.hid (List.mem_of_getElem? hx)
     have HNX:=fun h=>(Lib.hid (fun (j:Nat) (y:OrdM) (hj:j < k+1) (hy:os[j]? = some y)=>by
      rcases Nat.lt_succ_iff_lt_or_eq.1 hj with h1 | rfl
      ·exact HK.out j y h1 hy
      ·rw [hx] at hy;cases hy;exact h):Hid (∀(j:Nat) (y:OrdM),j < k+1→os[j]? = some y→(decide (20 < y.ws.length) || y.ws.any fun x=>decide (20 < x.l.length))=false))
     have HNX2:=Lib.hid HNX
     have HRW:=Lib.hid (HW.out x HM.out)
     have hcw:=HCW.out x HM.out
     have HBIG:=Lib.hid (fun (h:(decide (20 < x.ws.length) || x.ws.any fun x=>decide (20 < x.l.length))=true)=>HR3.out (List.any_eq_true.2 ⟨x,HM.out,h⟩))
     clear hP hx HNX HM
     obtain ⟨fr,tw,ws,wa,wc⟩:=x
     simp only at *
     by_cases hbig:20 < ws.length
     ·have hi:(20:Int) < (ws.length:Int):=by omega
      have hz:=HBIG.out (by simp [hbig])
      subst hz
      go_wp2
      go_ret
      exact ⟨rfl,hBw⟩
     have hi:¬ (20:Int) < (ws.length:Int):=by omega
     go_upto_region 14 with fail
     clear hi
     go_loopw [5] (fun i wr=>∃m:Nat,i=.int .i64 m∧m≤ws.length∧wr=W∧Hid (∀(j:Nat) y,j < m→ws[j]? = some y→decide (20 < y.l.length)=false)) (fun i _=>ws.length - (intOf i).toNat)
     case atStart=>exact ⟨0,rfl,Nat.zero_le _,rfl,Lib.hid fun j s hj=>absurd hj (Nat.not_lt_zero _)⟩
     case round =>
      obtain ⟨m,rfl,hm,hwr,HM⟩:=hrel
      have hwr:=hwr.symm
      subst hwr
      by_cases hml:m < ws.length
      ·obtain ⟨y,hy⟩:∃y,ws[m]? = some y:=⟨ws[m],by simp [hml]⟩
       obtain ⟨bb,bo,rfl,hQ⟩:=HRW.out (by show 1≤ws.length;omega)
       have hmc:(m:Int)≤(wc:Int):=by omega
       have hmi:(m:Int) < (ws.length:Int):=by omega
       have d0:=qb _ hBw (hQ m y hy 0 _ rfl)
       simp only [Nat.mul_one,Nat.add_zero] at d0
       have HYM:=Lib.hid (List.mem_of_getElem? hy)
       have HNY:=fun h=>(Lib.hid (fun (j:Nat) (y':WayM) (hj:j < m+1) (hy':ws[j]? = some y')=>by
        rcases Nat.lt_succ_iff_lt_or_eq.1 hj with h1 | rfl
        ·exact HM.out j y' h1 hy'
        ·rw [hy] at hy';cases hy';exact h):Hid (∀(j:Nat) (y':WayM),j < m+1→ws[j]? = some y'→decide (20 < y'.l.length)=false))
       clear hQ hy
       by_cases hb2:20 < y.l.length
       ·have hi2:(20:Int) < (y.l.length:Int):=by omega
        have hz:=HBIG.out (by rw [Bool.or_eq_true];exact .inr (List.any_eq_true.2 ⟨y,HYM.out,by simpa using hb2⟩))
        subst hz
        go_wp2
        go_ret
        exact ⟨rfl,hBw⟩
       ·have hi2:¬ (20:Int) < (y.l.length:Int):=by omega
        have HN2:=HNY (by simpa using hb2)
        clear HNY
        go_wp2
        go_roundw
        case rel=>exact ⟨m+1,rfl,by omega,(by first | rfl | trivial),HN2⟩
        case measure=>simp [intOf];omega
      ·obtain rfl:m=ws.length:=by omega
       have HN2:=HNX2.out (by
        rw [Bool.or_eq_false_iff]
        refine ⟨by simpa using hbig,List.any_eq_false.2 fun y hy=>?_⟩
        obtain ⟨j,hj,rfl⟩:=List.getElem_of_mem hy
        have:=HM.out j _ hj (List.getElem?_eq_getElem hj)
        simpa using this)
       clear HM HNX2
       go_wp2
       go_roundw
       case rel=>exact ⟨k+1,rfl,by omega,(by first | rfl | trivial),HN2⟩
       case measure=>simp [intOf];omega
    ·obtain rfl:k=os.length:=by omega
     have hoa:(os.any fun o=>decide (20 < o.ws.length) || o.ws.any fun x=>decide (20 < x.l.length))=false:=by
      rw [List.any_eq_false]
      intro s hs
      obtain ⟨j,hj,rfl⟩:=List.getElem_of_mem hs
      have:=HK.out j _ hj (List.getElem?_eq_getElem hj)
      rw [this]
      simp
     have hz:=HR5.out hoa
     subst hz
     clear HK hoa
     go_wp2
     go_ret
     exact ⟨rfl,hBw⟩
def fitB (D:DayM):Bool:=!Zj D && decide (checkN D=0)
theorem fit_out {D:DayM} (h:fitB D=true) (hc:DayCap D):DaySm D∧checkN D=0:=by
 unfold fitB at h
 simp only [Bool.and_eq_true,Bool.not_eq_true',decide_eq_true_eq] at h
 exact ⟨qaW h.1 hc,h.2⟩
set_option maxHeartbeats 2000000 in
set_option maxRecDepth 100000 in
theorem Fit_any (D:DayM) (w:World) (h:DayAt w D) (hcap:DayCap D):Calls qj 18 #[dv D] w fun e w'=>e=.returned (.bool (fitB D))∧Below w.heap.size w w':=by
 have hgr:=fun W (hB:Below w.heap.size w W)=>qcD D W (h.keep hB) hcap
 have hck:=fun (hg:Zj D=false) W (hB:Below w.heap.size w W)=>Qs D W (h.keep hB) (qaW hg hcap)
 unfold fitB
 generalize Zj D=G at *
 generalize checkN D=C at *
 unfold dv at *
 clear h hcap
 obtain ⟨ts,ta,tc,gs,ga,gc,os,oa,oc,hs,ha,hc,cs,ca,cc⟩:=D
 simp only at *
 generalize Value.slice ta ts.length tc=x0 at *
 generalize Value.slice ga gs.length gc=x1 at *
 generalize Value.slice oa os.length oc=x2 at *
 generalize Value.slice ha hs.length hc=x3 at *
 generalize Value.slice ca cs.length cc=x4 at *
 cases G with
 | true =>
   clear hck
   go_enter (sf 18 f18),ntmps18
   go_wp2_with (go_at_call 7;(with_reducible refine (hgr _ (by go_grown)).mono ?_);rintro e w1 ⟨rfl,hB1⟩;have hB2:=Below.call (B:=w.heap.size) (w:=w) (by go_grown) hB1 (Nat.le_refl _))
   go_ret
   exact ⟨rfl,hB2⟩
 | false =>
   have HCK:=Lib.hid (hck rfl)
   clear hck
   by_cases hC:C=0
   ·subst hC
    go_enter (sf 18 f18),ntmps18
    go_wp2_with (first | (go_at_call 7;(with_reducible refine (hgr _ (by go_grown)).mono ?_);rintro e w1 ⟨rfl,hB1⟩;have hB2:=Below.call (B:=w.heap.size) (w:=w) (by go_grown) hB1 (Nat.le_refl _);obtain ⟨hc,hg⟩:=zH hB1;have hz1:=hB1.size;simp at hz1;have hz2:w.heap.size < w1.heap.size:=(by omega)) | (go_at_call 23;(with_reducible refine (HCK.out _ hB2).mono ?_);rintro e w2 ⟨rfl,hB3⟩;have hB4:=bcl hB2 hB3))
    go_ret
    exact ⟨by simp,hB4⟩
   ·have hne:(C == 0)=false:=by simpa using hC
    go_enter (sf 18 f18),ntmps18
    go_wp2_with (first | (go_at_call 7;(with_reducible refine (hgr _ (by go_grown)).mono ?_);rintro e w1 ⟨rfl,hB1⟩;have hB2:=Below.call (B:=w.heap.size) (w:=w) (by go_grown) hB1 (Nat.le_refl _);obtain ⟨hc,hg⟩:=zH hB1;have hz1:=hB1.size;simp at hz1;have hz2:w.heap.size < w1.heap.size:=(by omega)) | (go_at_call 23;(with_reducible refine (HCK.out _ hB2).mono ?_);rintro e w2 ⟨rfl,hB3⟩;have hB4:=bcl hB2 hB3))
    go_ret
    exact ⟨by simp [hC],hB4⟩
end Go.Proofs.Tryz
section
namespace Go.Proofs.YtjkenojgabamiaaGreatDoor
open Go Go.Conc Go.Sim Go.Load Go.RowKit Go.ChangeShapes Go.WideShapes Go.ChangeAt
open Go.Proofs.Tryz
section
variable {H:Type} {enc:TypeId×Value→H} {W:World}
end
theorem day_cap {W:World} {D:DayM} (h:DayRd W D):DayCap D:=⟨h.ts.cap.1,h.gs.cap.1,h.os.cap.1,fun o ho=>(h.or o ho).row.cap.1,fun o ho x hx=>((h.or o ho).ways x hx).cap.1,h.hs.cap.1,h.cs.cap.1⟩
end Go.Proofs.YtjkenojgabamiaaGreatDoor
end
namespace Go.Proofs.Tryz
open Go Go.Load Go.LoadR Go.RowKit
def Yf (n:Int) (h:HldM):HldM:={ h with b:=h.b+n,e:=h.e+n }
def xU (n:Int) (c:CalM):CalM:={ c with co:=c.co+n,cl:=c.cl+n }
def yM (D:DayM) (n:Int) (a:Option Addr) (c:Nat) (b:Option Addr) (d:Nat):DayM:={ D with hs:=D.hs.map (Yf n),ha:=a,hc:=c,cs:=D.cs.map (xU n),ca:=b,cc:=d }
section
variable (D:DayM) (n:Int) (a:Option Addr) (c:Nat) (b:Option Addr) (d:Nat)
theorem qdr (t g:Int) (x:CalM) (y:WayM):hitC (t+n) g (xU n x) y=hitC t g x y:=by
 unfold hitC xU
 congr 1
 ·exact decide_eq_decide.2 (by simp only;omega)
 ·congr 1
  exact decide_eq_decide.2 (by simp only;omega)
theorem JA (t g:Int):∀(cs:List CalM) (took:List WayM),Yu (t+n) g (cs.map (xU n)) took=Yu t g cs took
 | [],_=>rfl
 | _ :: _,[]=>rfl
 | x :: cs,y :: took=>by
   rw [List.map_cons]
   unfold Yu
   rw [qdr,JA t g cs took]
theorem YY (t g:Int):∀hs:List HldM,Zv (t+n) g (hs.map (Yf n))=Zv t g hs
 | []=>rfl
 | h :: hs=>by
   rw [List.map_cons]
   unfold Zv
   rw [YY t g hs]
   have e:hitH (t+n) g (Yf n h)=hitH t g h:=by
    unfold hitH Yf
    congr 1
    congr 1
    ·exact decide_eq_decide.2 (by simp only;omega)
    ·exact decide_eq_decide.2 (by simp only;omega)
   rw [e]
   rfl
theorem qdk (p:PastM) (took:List WayM) (g:Nat) (t:Int):ZZ (yM D n a c b d) p took g (t+n)=ZZ D p took g t:=by
 unfold ZZ
 show max 0 (p.get g - Yu (t+n) g (D.cs.map (xU n)) took - Zv (t+n) g (D.hs.map (Yf n)))=_
 rw [JA,YY]
theorem qdl (p:PastM) (took:List WayM) (t:Int) (x:WayM):JY (yM D n a c b d) p took (t+n) x=JY D p took t x:=by
 unfold JY
 congr 1
 funext g
 rw [qdk]
theorem Jm (s:SetM) (took:List WayM) (x:CalM):∀m k,je (yM D n a c b d) s took (xU n x) m k=je D s took x m k
 | 0,_=>rfl
 | m+1,k=>by
   unfold je
   have hw:wayK (yM D n a c b d) s (xU n x) k=wayK D s x k:=rfl
   rw [hw,show (xU n x).co=x.co+n from rfl,qdl,Jm s took x m (k+1)]
theorem Zk (s:SetM):∀(i:Nat) (took:List WayM) (cs:List CalM),zW (yM D n a c b d) s i took (cs.map (xU n))=zW D s i took cs
 | _,_,[]=>rfl
 | i,took,x :: cs=>by
   have hs:Za (yM D n a c b d) s i took (xU n x)=Za D s i took x:=by
    unfold Za
    rw [show (qJ (yM D n a c b d) (xU n x)).ws.length=(qJ D x).ws.length from rfl,Jm]
   rw [List.map_cons]
   unfold zW
   rw [hs,Zk s (i+1) _ cs]
theorem Yi (s:SetM):qG (yM D n a c b d) s=qG D s:=Zk D n a c b d s 0 [] D.cs
theorem Yo:∀(ns:List Int) (cs:List CalM),Qv ns (cs.map (xU n))=Qv ns cs
 | [],[]=>rfl
 | [],_ :: _=>rfl
 | _ :: _,[]=>rfl
 | x :: ns,y :: cs=>by
   rw [List.map_cons]
   unfold Qv
   rw [Yo ns cs]
   rfl
theorem QW:qo (yM D n a c b d)=qo D:=by
 unfold qo
 show (za D.gs 0 ⟨0,0,0,0⟩).filter (zO (yM D n a c b d))=_
 congr 1
 funext p
 unfold zO
 rw [Yi]
 exact Yo n _ _
theorem qbX (s:SetM):QT (yM D n a c b d) s=QT D s:=by unfold QT;rw [Yi]
theorem qbW:Yg (yM D n a c b d)=Yg D:=by
 show zm ((qo (yM D n a c b d)).map fun p=>QT (yM D n a c b d) (setOf p))=zm ((qo D).map fun p=>QT D (setOf p))
 rw [QW]
 simp only [qbX]
theorem qcy (l:List PastM) (m:PastM):zP (yM D n a c b d) l m=zP D l m:=by
 unfold zP Jd
 simp only [Yi]
theorem qdX:qag (yM D n a c b d)=qag D:=by
 unfold qag
 rw [QW]
 simp only [qcy]
 rfl
end
theorem ZO (D:DayM):∀(l:List CalM) (last:Int),jK D last l=0→∀c∈l,∃last,qcL D last c=0
 | [],_,_,c,h=>by cases h
 | x :: l,last,h,c,hc=>by
   unfold jK at h
   by_cases hx:qcL D last x=0
   ·rw [if_neg (by simpa using hx)] at h
    rcases List.mem_cons.1 hc with rfl | hc
    ·exact ⟨last,hx⟩
    ·exact ZO D l _ h c hc
   ·rw [if_pos hx] at h;exact absurd h hx
theorem times_ok {D:DayM} (hz:checkN D=0):(∀h∈D.hs,(0≤h.b∧h.b≤99)∧0≤h.e∧h.e≤99)∧∀c∈D.cs,(0≤c.co∧c.co≤99)∧0≤c.cl∧c.cl≤99:=by
 have z:∀{a b:Int},(if a≠0 then a else b)=0→a=0∧b=0:=fun {a b} h=>by
  by_cases ha:a=0
  ·rw [if_neg (by simpa using ha)] at h;exact ⟨ha,h⟩
  ·rw [if_pos ha] at h;exact absurd h ha
 unfold checkN at hz
 obtain ⟨hh,hc⟩:=z (z (z (z hz).2).2).2
 unfold xR at hh
 unfold xX at hc
 split at hh
 ·cases hh
 split at hc
 ·cases hc
 refine ⟨fun h hm=>?_,fun c hm=>?_⟩
 ·obtain ⟨j,e⟩:=yB _ _ _ hh h hm
  unfold hldA at e
  split at e
  ·cases e
  ·split at e
   ·cases e
   ·rename_i h1
    simp only [Bool.not_eq_false,Bool.and_eq_true] at h1
    exact ⟨zM.1 h1.1.2,zM.1 h1.2⟩
 ·obtain ⟨j,e⟩:=ZO D _ _ hc c hm
  unfold qcL at e
  obtain ⟨_,e⟩:=z e
  split at e
  ·cases e
  ·rename_i h1
   simp only [Bool.not_eq_false,Bool.and_eq_true] at h1
   exact ⟨zM.1 h1.1,zM.1 h1.2⟩
end Go.Proofs.Tryz
namespace Go.RouteHead
open Go
section
variable {P:Program} {ops:Array Oper} {md:Region.Mode} {Q:Exit→Act→World→Prop} {S:World→Prop} {T:Array Bool→Act→World→Prop} {n:Nat}
def jh (P:Program) (md:Region.Mode) (ops:Array Oper) (Q:Exit→Act→World→Prop) (S:World→Prop) (n:Nat) (T:Array Bool→Act→World→Prop):Nat→Array Bool→Act→World→Prop
 | 0,listed,a,w=>T listed a w
 | f+1,listed,a,w=>Region.ready md ops listed≠[]∧∀i∈Region.ready md ops listed,i < n∧wpOp P ops Q i (fun a' w'=>S w'∧jh P md ops Q S n T f (listed.setIfInBounds i true) a' w') a w
theorem qbr {g:Nat} (hT:∀listed a w,T listed a w→wpAny P md ops Q g listed a w):∀(f:Nat) (listed:Array Bool) (a:Act) (w:World),jh P md ops Q S n T f listed a w→wpAny P md ops Q (f+g) listed a w
 | 0,listed,a,w,h=>by rw [Nat.zero_add];exact hT _ _ _ h
 | f+1,listed,a,w,h=>by
   rw [show f+1+g=(f+g)+1 by omega]
   exact ⟨fun h0=>absurd h0 h.1,fun i hi=>wpOp_mono (fun a' w' h'=>qbr hT f _ a' w' h'.2) (h.2 i hi).2⟩
structure HeadC (md:Region.Mode) (ops:Array Oper) (n:Nat) (T:Array Bool→Act→World→Prop):Prop where
 sel:Region.noSelect ops=true
 sink:Region.sinkB md ops n=true
 chain:Region.chainB md ops n=true
 lt:n < ops.size
 done:∀listed a w,T listed a w→∀j∈Region.ready md ops listed,n≤j
theorem JE {i:Nat} {oi:Oper} {v:Value} (C:HeadC md ops n T) (hi:ops[i]? = some oi) (hin:i < n) (hQ:∀c a w,Q (.panic c) (a.put oi.dst v) w→Q (.panic c) a w) :
 ∀(f:Nat) (listed:Array Bool) (a:Act) (w:World),HeadInv md ops n listed →
  (∀j oj,ops[j]? = some oj→j≠i→listed.getD j true=false→(∀e∈oj.after,Region.binds md e=true→e.on≠i)→oi.apart ops oj=true) →
  i∈Region.ready md ops listed→YieldsIf P ops S oi v a→S w →
  jh P md ops Q S n T f (listed.setIfInBounds i true) (a.put oi.dst v) w→jh P md ops Q S n T (f+1) listed a w:=by
 have hsel:=Region.noSelect_spec C.sel
 intro f
 induction f with
 | zero =>
   intro listed a w inv _ hr hy hS H
   have hun:=(mem_ready.1 hr).1
   refine ⟨fun h=>(by rw [h] at hr;cases hr),fun j hj=>?_⟩
   have hjn:j < n:=(Nat.lt_or_ge j n).resolve_right fun h=>tail_waits C.sink C.chain C.lt inv _ i rfl hin hun j h hj
   refine ⟨hjn,?_⟩
   by_cases hji:j=i
   ·subst hji;exact hy.wpOp hi hS ⟨hS,H⟩
   ·have:=C.done _ _ _ H j (ready_mono hj hji)
    omega
 | succ f ih =>
   intro listed a w inv hfree hr hy hS H
   have hun:=(mem_ready.1 hr).1
   refine ⟨fun h=>(by rw [h] at hr;cases hr),fun j hj=>?_⟩
   have hjn:j < n:=(Nat.lt_or_ge j n).resolve_right fun h=>tail_waits C.sink C.chain C.lt inv _ i rfl hin hun j h hj
   refine ⟨hjn,?_⟩
   by_cases hji:j=i
   ·subst hji;exact hy.wpOp hi hS ⟨hS,H⟩
   ·have h1:=(H.2 j (ready_mono hj hji)).2
    obtain ⟨hjun,oj,hoj,hall⟩:=mem_ready.1 hj
    have hnot:∀e∈oj.after,Region.binds md e=true→e.on≠i:=fun e he hb heq=>by
     have h3:=hall e he hb
     rw [heq,getD_both hun] at h3
     cases h3
    have h2:=wpOp_putIf hoj (hfree j oj hoj hji hjun hnot) (fun cs b=>hsel i oi cs b hi) (fun cs b=>hsel j oj cs b hoj) hQ hy h1
    refine wpOp_mono (fun a' w' h3=>⟨h3.2.1,ih (listed.setIfInBounds j true) a' w' (inv.set hj hjn) (fun k ok hk hki hu hno=>?_) (ready_mono hr (Ne.symm hji)) h3.1 h3.2.1 ?_⟩) h2
    ·refine hfree k ok hk hki ?_ hno
     by_cases hjk:j=k
     ·subst hjk;exact hjun
     ·rw [getD_set_ne true hjk] at hu;exact hu
    ·rw [Array.setIfInBounds_comm _ _ hji]
     exact h3.2.2
theorem inv_set {i:Nat} {listed:Array Bool} (inv:HeadInv md ops n listed) (hin:(decide (i < n))=true) (hr:(Region.ready md ops listed).contains i=true):HeadInv md ops n (listed.setIfInBounds i true):=inv.set (by simpa using hr) (of_decide_eq_true hin)
theorem qaB {i:Nat} {oi:Oper} {v:Value} {f:Nat} {listed:Array Bool} {a:Act} {w:World} (C:HeadC md ops n T) (inv:HeadInv md ops n listed) (hi:ops[i]? = some oi) (hin:(decide (i < n))=true) (hf:Region.free md ops listed i=true) (hr:(Region.ready md ops listed).contains i=true)
 (hQ:∀c a w,Q (.panic c) (a.put oi.dst v) w→Q (.panic c) a w) (hy:YieldsIf P ops S oi v a) (hS:S w) (h:jh P md ops Q S n T f (listed.setIfInBounds i true) (a.put oi.dst v) w):jh P md ops Q S n T (f+1) listed a w :=
 have hr':i∈Region.ready md ops listed:=by simpa using hr
 JE C hi (of_decide_eq_true hin) hQ f listed a w inv (Region.free_spec hi hf) hr' hy hS h
theorem xk (i:Nat) {oi:Oper} {v:Value} {f:Nat} {listed:Array Bool} {a:Act} {w:World} (C:HeadC md ops n T) (inv:HeadInv md ops n listed) (h:HeadInv md ops n (listed.setIfInBounds i true)→jh P md ops Q S n T f (listed.setIfInBounds i true) (a.put oi.dst v) w)
 (hi:ops[i]? = some oi:=by rfl) (hin:(decide (i < n))=true:=by kernel_rfl) (hf:Region.free md ops listed i=true:=by kernel_rfl) (hr:(Region.ready md ops listed).contains i=true:=by kernel_rfl)
 (hy:YieldsIf P ops S oi v a:=by exact Or.inl ⟨by kernel_rfl,by intro w hSw;(try dsimp only at hSw);go_simp;first | done | exact rfl⟩) (hS:S w:=by assumption) (hQ:∀c a w,Q (.panic c) (a.put oi.dst v) w→Q (.panic c) a w:=by exact fun _ _ _ h=>h):jh P md ops Q S n T (f+1) listed a w :=
 qaB C inv hi hin hf hr hQ hy hS (h (inv_set inv hin hr))
theorem wpHead_one {i:Nat} {o:Oper} {f:Nat} {listed:Array Bool} {a:Act} {w:World} (inv:HeadInv md ops n listed) (hr:Region.ready md ops listed=[i]) (hin:(decide (i < n))=true) (ho:ops[i]? = some o)
 (h:∀K':Act→World→Prop,Shut (∀a w,S w→(S w→HeadInv md ops n (listed.setIfInBounds i true)→jh P md ops Q S n T f (listed.setIfInBounds i true) a w)→K' a w)→if Region.wanted o (yielded ops a.tmps)=true then Oper.wp P o a w K' Q else K' (a.put o.dst undef) w) :
 jh P md ops Q S n T (f+1) listed a w:=by
 have hr':i∈Region.ready md ops listed:=by rw [hr];exact List.mem_singleton.2 rfl
 refine ⟨by rw [hr];simp,fun j hj=>?_⟩
 rw [hr] at hj
 obtain rfl:=List.mem_singleton.1 hj
 exact ⟨of_decide_eq_true hin,wpOp_step ho (fun K' hK=>h K' (fun a w hS hW=>hK a w ⟨hS,hW hS (inv.set hr' (of_decide_eq_true hin))⟩))⟩
end
section
variable {P:Program} {Q:Exit→Act→World→Prop} {S:World→Prop}
def tailT (P:Program) (Q:Exit→Act→World→Prop) (l:List Oper) (n:Nat) (t:List Oper) (listed:Array Bool) (a:Act) (w:World):Prop:=Region.seqB .any l.toArray (l.toArray.size - n) n listed=true∧wpList P l.toArray Q t a w
theorem wp_region_head {id:Nat} {a:Act} {w:World} {l:List Oper} (n:Nat) (t:List Oper) (hm:P.follows .mixedOrders=true) (hsel:Region.noSelect l.toArray=true) (hsk:Region.sinkB .any l.toArray n=true) (hch:Region.chainB .any l.toArray n=true) (hn:(decide (n < l.toArray.size))=true) (ht:l.drop n=t)
 (hS:S w.drew) (h:S w.drew→HeadC .any l.toArray n (tailT P Q l n t)→HeadInv .any l.toArray n (Array.replicate l.toArray.size false)→jh P .any l.toArray Q S n (tailT P Q l n t) n (Array.replicate l.toArray.size false) a w.drew):(Code.region id l.toArray true).wp P Q a w:=by
 have hn:=of_decide_eq_true hn
 have inv0:HeadInv .any l.toArray n (Array.replicate l.toArray.size false) :=
  ⟨by simp,fun j oj _ hl=>(by rw [getD_replicate_false] at hl;cases hl),fun t _ ht=>getD_in (by simpa using ht) (getD_replicate_false _ _)⟩
 have H:=h hS ⟨hsel,hsk,hch,hn,fun listed a w hT=>seqB_ready hT.1⟩ inv0
 have hdl:(l.drop n).length=l.toArray.size - n:=by simp
 refine wp_region_any hm ?_
 have:=qbr (Q:=Q) (ops:=l.toArray) (g:=l.toArray.size - n) (fun listed a' w' hT=>by
  have:=wpAny_of_seq (md:=.any) (ops:=l.toArray) (P:=P) (Q':=Q) (l.drop n) n listed a' w' (fun j=>by simp [List.getElem?_drop]) (by rw [hdl];exact hT.1) (by rw [ht];exact hT.2)
  rwa [hdl] at this) _ _ _ _ H
 rw [show n+(l.toArray.size - n)=l.toArray.size by omega] at this
 exact this
end
end Go.RouteHead
namespace Go.Proofs.Tryz
open Go Go.Load Go.LoadR Go.RowKit
theorem zN.mod2 {α:Type} {S:Nat→Prop} {B:Nat} {w w1:World} {k:Nat} {enc:α→List Value} {a:Option Addr} {l:List α} (h:zN B w k enc a l) (hm:Mod S w w1) (hS:1≤l.length→∀p,a=some p→¬ S p.block):zN B w1 k enc a l :=
 ⟨h.1,fun hl=>by
   obtain ⟨g,e,h⟩:=h.2 hl
   have hn:=hS hl _ e
   exact ⟨g,e,fun i x hx j v hv=>⟨hm.cell (h i x hx j v hv).1 hn,(hm.frozen (h i x hx j v hv).1 hn).trans (h i x hx j v hv).2⟩⟩⟩
structure WayOK (B:Nat) (w:World) (x' x:WayM):Prop where
 l:x'.l=x.l
 c:x'.l.length≤x'.c
 own:zN B w 1 encI x'.a x'.l
theorem WayOK.mod {S:Nat→Prop} {B:Nat} {w w1:World} {x' x:WayM} (h:WayOK B w x' x) (hm:Mod S w w1) (hS:∀j,S j→j < B):WayOK B w1 x' x :=
 ⟨h.l,h.c,h.own.mod hm (fun p hp e=>by have:=h.own.1 p hp;have:=hS _ e;omega)⟩
structure OrdOK (B:Nat) (w:World) (o' o:OrdM):Prop where
 fr:o'.fr=o.fr
 tto:o'.toT=o.toT
 len:o'.ws.length=o.ws.length
 c:o'.ws.length≤o'.c
 own:zN B w 1 xY o'.a o'.ws
 ways:∀(j:Nat) (x' x:WayM),o'.ws[j]? = some x'→o.ws[j]? = some x→WayOK B w x' x
theorem OrdOK.mod {S:Nat→Prop} {B:Nat} {w w1:World} {o' o:OrdM} (h:OrdOK B w o' o) (hm:Mod S w w1) (hS:∀j,S j→j < B):OrdOK B w1 o' o :=
 ⟨h.fr,h.tto,h.len,h.c,h.own.mod hm (fun p hp e=>by have:=h.own.1 p hp;have:=hS _ e;omega),fun j x' x h1 h2=>(h.ways j x' x h1 h2).mod hm hS⟩
def qbx (B k:Nat) (os:List OrdM) (w:World) (os':List OrdM):Prop :=
 os'.length=os.length∧∀(i:Nat) (o' o:OrdM),os'[i]? = some o'→os[i]? = some o→if i < k then OrdOK B w o' o else o'=o
theorem qbx.zero (B:Nat) (os:List OrdM) (w:World):qbx B 0 os w os:=⟨rfl,fun i o' o h1 h2=>by rw [if_neg (by omega)];rw [h1] at h2;exact Option.some.inj h2⟩
theorem qbx.mod {S:Nat→Prop} {B k:Nat} {os os':List OrdM} {w w1:World} (h:qbx B k os w os') (hm:Mod S w w1) (hS:∀j,S j→j < B):qbx B k os w1 os' :=
 ⟨h.1,fun i o' o h1 h2=>by
   have:=h.2 i o' o h1 h2
   by_cases hi:i < k
   ·rw [if_pos hi] at this ⊢;exact this.mod hm hS
   ·rw [if_neg hi] at this ⊢;exact this⟩
theorem qbx.step {B k:Nat} {os os':List OrdM} {w:World} {o o':OrdM} (h:qbx B k os w os') (ho:os[k]? = some o) (hk:OrdOK B w o' o):qbx B (k+1) os w (os'.set k o') :=
 ⟨by rw [List.length_set];exact h.1,fun i p' p h1 h2=>by
   by_cases e:i=k
   ·subst e
    rw [ho] at h2
    obtain rfl:=Option.some.inj h2
    rw [if_pos (by omega)]
    have hl:i < os'.length:=by rw [h.1];exact (List.getElem?_eq_some_iff.1 ho).1
    rw [List.getElem?_set_self hl] at h1
    obtain rfl:=Option.some.inj h1
    exact hk
   ·rw [List.getElem?_set_ne (Ne.symm e)] at h1
    have:=h.2 i p' p h1 h2
    by_cases hi:i < k
    ·rw [if_pos hi] at this;rw [if_pos (by omega)];exact this
    ·rw [if_neg hi] at this;rw [if_neg (by omega)];exact this⟩
theorem zN.lt {α:Type} {B:Nat} {w:World} {k:Nat} {enc:α→List Value} {a:Option Addr} {l:List α} (h:zN B w k enc a l) (he:∀x,∃v,(enc x)[0]? = some v) (hl:1≤l.length) (p:Addr) (hp:a=some p):p.block < w.heap.size:=by
 obtain ⟨g,e,hc⟩:=h.2 hl
 rw [hp] at e
 obtain rfl:=Option.some.inj e
 obtain ⟨v,hv⟩:=he (l[0]'(by omega))
 have h9:=lt_of_cell (hc 0 (l[0]'(by omega)) (List.getElem?_eq_getElem (by omega)) 0 v hv).1
 exact h9
structure CopS (D:DayM) (N3 N4:Nat) (a1:Option Addr) (c1:Nat) (a2:Option Addr) (c2:Nat) (a3:Option Addr) (c3:Nat) (a4:Option Addr) (c4:Nat) (a5:Option Addr) (c5:Nat) (w wr:World):Prop where
 bel:Below w.heap.size w wr
 y0:wr.cell? ⟨w.heap.size,0,none⟩=some (.slice a1 D.ts.length c1)
 y1:wr.cell? ⟨w.heap.size,1,none⟩=some (.slice a2 D.gs.length c2)
 y2:wr.cell? ⟨w.heap.size,2,none⟩=some (.slice a5 D.os.length c5)
 y3:wr.cell? ⟨w.heap.size,3,none⟩=some (.slice a3 D.hs.length c3)
 y4:wr.cell? ⟨w.heap.size,4,none⟩=some (.slice a4 D.cs.length c4)
 r:∀i,i < 5→∃v,wr.cell? ⟨w.heap.size+1,i,none⟩=some v∧wr.frozen? ⟨w.heap.size+1,i,none⟩=false
 lt:w.heap.size+1 < N3
 le:N3≤N4
 ts:zN (w.heap.size+2) wr 1 encS a1 D.ts
 b1:1≤D.ts.length→∀p,a1=some p→p.block < N3
 gs:zN (w.heap.size+2) wr 4 XR a2 D.gs
 b2:1≤D.gs.length→∀p,a2=some p→p.block < N3
 hs:zN (w.heap.size+2) wr 4 YQ a3 D.hs
 b3:1≤D.hs.length→∀p,a3=some p→p.block < N3
 cs:zN (w.heap.size+2) wr 5 Qc a4 D.cs
 b4:1≤D.cs.length→∀p,a4=some p→N3≤p.block∧p.block < N4
theorem CopS.mod {D:DayM} {N3 N4:Nat} {a1:Option Addr} {c1:Nat} {a2:Option Addr} {c2:Nat} {a3:Option Addr} {c3:Nat} {a4:Option Addr} {c4:Nat} {a5:Option Addr} {c5:Nat} {w wr wx:World} {S:Nat→Prop} (h:CopS D N3 N4 a1 c1 a2 c2 a3 c3 a4 c4 a5 c5 w wr) (hm:Mod S wr wx) (hS:∀j,S j→N4≤j):CopS D N3 N4 a1 c1 a2 c2 a3 c3 a4 c4 a5 c5 w wx:=by
 have hlt:=h.lt
 have hle:=h.le
 have hn:¬ S w.heap.size:=fun e=>by have:=hS _ e;omega
 have hn1:¬ S (w.heap.size+1):=fun e=>by have:=hS _ e;omega
 refine ⟨h.bel.trans (hm.keep h.bel.size (fun j hj=>by have:=hS j hj;omega)),hm.cell h.y0 hn,hm.cell h.y1 hn,hm.cell h.y2 hn,hm.cell h.y3 hn,hm.cell h.y4 hn,?_,hlt,hle,?_,h.b1,?_,h.b2,?_,h.b3,?_,h.b4⟩
 ·intro i hi
  obtain ⟨v,h1,h2⟩:=h.r i hi
  exact ⟨v,hm.cell h1 hn1,(hm.frozen h1 hn1).trans h2⟩
 ·exact h.ts.mod2 hm (fun hl p hp e=>by have:=h.b1 hl p hp;have:=hS _ e;omega)
 ·exact h.gs.mod2 hm (fun hl p hp e=>by have:=h.b2 hl p hp;have:=hS _ e;omega)
 ·exact h.hs.mod2 hm (fun hl p hp e=>by have:=h.b3 hl p hp;have:=hS _ e;omega)
 ·exact h.cs.mod2 hm (fun hl p hp e=>by have:=h.b4 hl p hp;have:=hS _ e;omega)
def InS (B k:Nat) (ws:List WayM) (w:World) (ws':List WayM):Prop :=
 ws'.length=ws.length∧∀(i:Nat) (x' x:WayM),ws'[i]? = some x'→ws[i]? = some x→if i < k then WayOK B w x' x else x'=x
theorem InS.zero (B:Nat) (ws:List WayM) (w:World):InS B 0 ws w ws:=⟨rfl,fun i o' o h1 h2=>by rw [if_neg (by omega)];rw [h1] at h2;exact Option.some.inj h2⟩
theorem InS.mod {S:Nat→Prop} {B k:Nat} {ws ws':List WayM} {w w1:World} (h:InS B k ws w ws') (hm:Mod S w w1) (hS:∀j,S j→j < B):InS B k ws w1 ws' :=
 ⟨h.1,fun i o' o h1 h2=>by
   have:=h.2 i o' o h1 h2
   by_cases hi:i < k
   ·rw [if_pos hi] at this ⊢;exact this.mod hm hS
   ·rw [if_neg hi] at this ⊢;exact this⟩
theorem InS.step {B k:Nat} {ws ws':List WayM} {w:World} {x x':WayM} (h:InS B k ws w ws') (ho:ws[k]? = some x) (hk:WayOK B w x' x):InS B (k+1) ws w (ws'.set k x') :=
 ⟨by rw [List.length_set];exact h.1,fun i p' p h1 h2=>by
   by_cases e:i=k
   ·subst e
    rw [ho] at h2
    obtain rfl:=Option.some.inj h2
    rw [if_pos (by omega)]
    have hl:i < ws'.length:=by rw [h.1];exact (List.getElem?_eq_some_iff.1 ho).1
    rw [List.getElem?_set_self hl] at h1
    obtain rfl:=Option.some.inj h1
    exact hk
   ·rw [List.getElem?_set_ne (Ne.symm e)] at h1
    have:=h.2 i p' p h1 h2
    by_cases hi:i < k
    ·rw [if_pos hi] at this;rw [if_pos (by omega)];exact this
    ·rw [if_neg hi] at this;rw [if_neg (by omega)];exact this⟩
theorem InS.all {B:Nat} {ws ws':List WayM} {w:World} (h:InS B ws.length ws w ws'):∀(i:Nat) (x' x:WayM),ws'[i]? = some x'→ws[i]? = some x→WayOK B w x' x:=fun i x' x h1 h2=>by
 have h3:=h.2 i x' x h1 h2
 rwa [if_pos (List.getElem?_eq_some_iff.1 h2).1] at h3
theorem zN.set1 {α:Type} {B:Nat} {w:World} {enc:α→List Value} {g:Nat} {l:List α} {k:Nat} {x:α} {v:Value} (h:zN B w 1 enc (some ⟨g,0,none⟩) l) (hk:k < l.length) (he:∀y,(enc y).length=1) (hv:enc x=[v]):zN B (w.setCell ⟨g,k,none⟩ v) 1 enc (some ⟨g,0,none⟩) (l.set k x) :=
 ⟨h.1,fun hl=>⟨g,rfl,fun i y hy j u hu=>by
   obtain ⟨g',e,hc⟩:=h.2 (by omega)
   cases e
   have hj:j=0:=by have:=(List.getElem?_eq_some_iff.1 hu).1;rw [he] at this;omega
   subst hj
   obtain ⟨y0,hy0⟩:∃y0,l[k]? = some y0:=⟨l[k],List.getElem?_eq_getElem hk⟩
   obtain ⟨u0,hu0⟩:∃u0,(enc y0)[0]? = some u0:=⟨(enc y0)[0]'(by rw [he];omega),List.getElem?_eq_getElem _⟩
   have hk0:=hc k y0 hy0 0 u0 hu0
   rw [show k * 1+0=k by omega] at hk0
   rw [show i * 1+0=i by omega]
   by_cases e:i=k
   ·subst e
    rw [List.getElem?_set_self hk] at hy
    obtain rfl:=Option.some.inj hy
    rw [hv] at hu
    obtain rfl:v=u:=by simpa using hu
    exact ⟨qp (qz hk0.1),by simpa using hk0.2⟩
   ·rw [List.getElem?_set_ne (Ne.symm e)] at hy
    have h9:=hc i y hy 0 u hu
    rw [show i * 1+0=i by omega] at h9
    exact ⟨qf h9.1 (.inr e),by simpa using h9.2⟩⟩⟩
theorem WayOK.from {B B':Nat} {w:World} {x' x:WayM} (h:WayOK B w x' x) (hB:B'≤B):WayOK B' w x' x:=⟨h.l,h.c,h.own.from hB⟩
theorem Mod.old {S S':Nat→Prop} {w w1:World} (h:Mod S w w1) (hs:∀b,b < w.heap.size→S b→S' b):Mod S' w w1:=⟨h.os,h.tape,h.output,h.size,fun k hk hn=>h.block k hk (fun e=>hn (hs k hk e))⟩
theorem zN.set3 {B:Nat} {w:World} {g:Nat} {l:List OrdM} {k:Nat} {o x:OrdM} (h:zN B w 3 Zo (some ⟨g,0,none⟩) l) (ho:l[k]? = some o) (hf:x.fr=o.fr) (ht:x.toT=o.toT):zN B (w.setCell ⟨g,k * 3+2,none⟩ (.slice x.a x.ws.length x.c)) 3 Zo (some ⟨g,0,none⟩) (l.set k x) :=
 ⟨h.1,fun hl=>⟨g,rfl,fun i y hy j u hu=>by
   have hk:=(List.getElem?_eq_some_iff.1 ho).1
   obtain ⟨g',e,hc⟩:=h.2 (by omega)
   cases e
   have hj:j < 3:=(List.getElem?_eq_some_iff.1 hu).1
   by_cases e:i=k
   ·subst e
    rw [List.getElem?_set_self hk] at hy
    obtain rfl:=Option.some.inj hy
    have h2:=hc i o ho 2 _ rfl
    obtain rfl | rfl | rfl:j=0∨j=1∨j=2:=by omega
    ·have h0:=hc i o ho 0 _ rfl
     simp [Zo] at hu
     subst hu
     rw [hf]
     exact ⟨qf h0.1 (.inr (by simp)),by simpa using h0.2⟩
    ·have h0:=hc i o ho 1 _ rfl
     simp [Zo] at hu
     subst hu
     rw [ht]
     exact ⟨qf h0.1 (.inr (by simp)),by simpa using h0.2⟩
    ·simp [Zo] at hu
     subst hu
     exact ⟨qp (qz h2.1),by simpa using h2.2⟩
   ·rw [List.getElem?_set_ne (Ne.symm e)] at hy
    have h9:=hc i y hy j u hu
    exact ⟨qf h9.1 (.inr (by simp only;omega)),by simpa using h9.2⟩⟩⟩
def ordK (o:OrdM):Int×Int×List (List Int):=(o.fr,o.toT,o.ws.map (·.l))
structure SameD (D' D:DayM):Prop where
 ts:D'.ts=D.ts
 gs:D'.gs=D.gs
 os:D'.os.map ordK=D.os.map ordK
 hs:D'.hs=D.hs
 cs:D'.cs=D.cs
theorem qbx.same {B:Nat} {os os':List OrdM} {w:World} (h:qbx B os.length os w os'):os'.map ordK=os.map ordK:=by
 refine List.ext_getElem? fun i=>?_
 rw [List.getElem?_map,List.getElem?_map]
 by_cases hi:i < os.length
 ·have hi':i < os'.length:=by rw [h.1];exact hi
  have h3:=h.2 i _ _ (List.getElem?_eq_getElem hi') (List.getElem?_eq_getElem hi)
  rw [if_pos hi] at h3
  rw [List.getElem?_eq_getElem hi,List.getElem?_eq_getElem hi']
  simp only [Option.map_some,ordK,h3.fr,h3.tto,Option.some.injEq,Prod.mk.injEq,true_and]
  refine List.ext_getElem? fun j=>?_
  rw [List.getElem?_map,List.getElem?_map]
  by_cases hj:j < os[i].ws.length
  ·have hj':j < os'[i].ws.length:=by rw [h3.len];exact hj
   rw [List.getElem?_eq_getElem hj,List.getElem?_eq_getElem hj']
   simp only [Option.map_some,(h3.ways j _ _ (List.getElem?_eq_getElem hj') (List.getElem?_eq_getElem hj)).l]
  ·have hj':¬ j < os'[i].ws.length:=by rw [h3.len];exact hj
   rw [List.getElem?_eq_none (by omega),List.getElem?_eq_none (by omega)]
 ·have hi':¬ i < os'.length:=by rw [h.1];exact hi
  rw [List.getElem?_eq_none (by omega),List.getElem?_eq_none (by omega)]
def CopP (D:DayM) (w:World) (e:Ending) (w':World):Prop :=
 ∃D':DayM,e=.returned (dv D')∧Below w.heap.size w w'∧SameD D' D∧DaySm D'∧zN w.heap.size w' 5 Qc D'.ca D'.cs ∧
  ∀(wx:World) (cs':List CalM),Mod (fun j=>j < w.heap.size∨(1≤D.cs.length∧∃p,D'.ca=some p∧p.block=j)) w' wx→qh wx 5 Qc D'.ca cs'→DayAt wx { D' with cs:=cs' }
theorem cop_end {D:DayM} {N3 N4 N5:Nat} {a1:Option Addr} {c1:Nat} {a2:Option Addr} {c2:Nat} {a3:Option Addr} {c3:Nat} {a4:Option Addr} {c4:Nat} {a5:Option Addr} {c5:Nat} {w wr:World} {os':List OrdM}
 (h:CopS D N3 N4 a1 c1 a2 c2 a3 c3 a4 c4 a5 c5 w wr) (ho:zN N4 wr 3 Zo a5 os') (hx:qbx N5 D.os.length D.os wr os') (hN:N4≤N5) (hs:DaySm D) (hc1:D.ts.length≤c1) (hc2:D.gs.length≤c2) (hc3:D.hs.length≤c3) (hc4:D.cs.length≤c4) (hc5:D.os.length≤c5) {wf:World} (hf:Mod (fun j=>j=w.heap.size+1) wr wf) :
 CopP D w (.returned (.agg #[.slice a1 D.ts.length c1,.slice a2 D.gs.length c2,.slice a5 D.os.length c5,.slice a3 D.hs.length c3,.slice a4 D.cs.length c4])) wf:=by
 have hlt:=h.lt
 have hle:=h.le
 have hall:∀(i:Nat) (o':OrdM),os'[i]? = some o'→∃o,D.os[i]? = some o∧OrdOK N5 wr o' o:=fun i o' h1=>by
  have hi:i < D.os.length:=by rw [← hx.1];exact (List.getElem?_eq_some_iff.1 h1).1
  have h3:=hx.2 i o' _ h1 (List.getElem?_eq_getElem hi)
  rw [if_pos hi] at h3
  exact ⟨_,List.getElem?_eq_getElem hi,h3⟩
 have hallm:∀o'∈os',∃o,o∈D.os∧OrdOK N5 wr o' o:=fun o' hm=>by
  obtain ⟨i,hi⟩:=List.getElem?_of_mem hm
  obtain ⟨o,h1,h2⟩:=hall i o' hi
  exact ⟨o,List.mem_of_getElem? h1,h2⟩
 have hway:∀{o' o:OrdM},OrdOK N5 wr o' o→∀x'∈o'.ws,∃x,x∈o.ws∧WayOK N5 wr x' x:=fun {o' o} hoo x' hm=>by
  obtain ⟨i,hi⟩:=List.getElem?_of_mem hm
  have hil:i < o.ws.length:=by rw [← hoo.len];exact (List.getElem?_eq_some_iff.1 hi).1
  exact ⟨_,List.getElem_mem hil,hoo.ways i x' _ hi (List.getElem?_eq_getElem hil)⟩
 refine ⟨⟨D.ts,a1,c1,D.gs,a2,c2,os',a5,c5,D.hs,a3,c3,D.cs,a4,c4⟩,?_,h.bel.trans (hf.keep h.bel.size (fun j e=>by omega)),⟨rfl,rfl,hx.same,rfl,rfl⟩,?_,?_,?_⟩
 ·unfold dv
  simp only [hx.1]
 ·refine ⟨⟨hs.ts.1,hc1⟩,hs.nm,⟨hs.gs.1,hc2⟩,?_,?_,?_,⟨hs.hs.1,hc3⟩,⟨hs.cs.1,hc4⟩⟩
  ·simp only [hx.1]
   exact ⟨hs.os.1,hc5⟩
  ·intro o' hm
   obtain ⟨o,h1,h2⟩:=hallm o' hm
   exact ⟨by rw [h2.len];exact (hs.ws o h1).1,h2.c⟩
  ·intro o' hm x' hm'
   obtain ⟨o,h1,h2⟩:=hallm o' hm
   obtain ⟨x,h3,h4⟩:=hway h2 x' hm'
   exact ⟨by rw [h4.l];exact (hs.ls o h1 x h3).1,h4.c⟩
 ·exact (h.cs.mod hf (fun p hp e=>by have:=h.cs.1 p hp;omega)).from (by omega)
 ·intro wx cs' hm hr
  have hmm:Mod (fun j=>j=w.heap.size+1∨(j < w.heap.size∨(1≤D.cs.length∧∃p,a4=some p∧p.block=j))) wr wx:=(hf.mono fun b e=>.inl e).trans (hm.mono fun b e=>.inr e)
  have hfar:∀{n:Nat},N4≤n→¬ (n=w.heap.size+1∨(n < w.heap.size∨(1≤D.cs.length∧∃p,a4=some p∧p.block=n))):=fun {n} hn e=>by
   rcases e with e | e | ⟨e,p,hp,e2⟩
   ·omega
   ·omega
   ·have:=h.b4 e p hp
    omega
  have hnear:∀{n:Nat},w.heap.size+2≤n→n < N3→¬ (n=w.heap.size+1∨(n < w.heap.size∨(1≤D.cs.length∧∃p,a4=some p∧p.block=n))):=fun {n} hn hn2 e=>by
   rcases e with e | e | ⟨e,p,hp,e2⟩
   ·omega
   ·omega
   ·have:=h.b4 e p hp
    omega
  refine ⟨?_,?_,?_,?_,?_,?_,hr⟩
  ·exact (h.ts.mod2 hmm (fun hl p hp=>hnear (h.ts.1 p hp) (h.b1 hl p hp))).rows
  ·exact (h.gs.mod2 hmm (fun hl p hp=>hnear (h.gs.1 p hp) (h.b2 hl p hp))).rows
  ·exact (ho.mod hmm (fun p hp=>hfar (ho.1 p hp))).rows
  ·intro o' hm'
   obtain ⟨o,h1,h2⟩:=hallm o' hm'
   exact (h2.own.mod hmm (fun p hp=>hfar (Nat.le_trans hN (h2.own.1 p hp)))).rows
  ·intro o' hm' x' hmx
   obtain ⟨o,h1,h2⟩:=hallm o' hm'
   obtain ⟨x,h3,h4⟩:=hway h2 x' hmx
   exact (h4.own.mod hmm (fun p hp=>hfar (Nat.le_trans hN (h4.own.1 p hp)))).rows
  ·exact (h.hs.mod2 hmm (fun hl p hp=>hnear (h.hs.1 p hp) (h.b3 hl p hp))).rows
def yK (w w':World):Prop:=∀a v,w.cell? a=some v→w'.cell? a=some v∧w'.frozen? a=w.frozen? a
theorem yK.refl (w:World):yK w w:=fun _ _ h=>⟨h,rfl⟩
theorem yK.trans {w w1 w2:World} (h:yK w w1) (k:yK w1 w2):yK w w2:=fun a v hc=>⟨(k a v (h a v hc).1).1,((k a v (h a v hc).1).2).trans (h a v hc).2⟩
theorem yK.below {w w1:World} (hB:Below w.heap.size w w1):yK w w1:=fun a v hc=>⟨qb _ hB hc,World.frozen?_of_block (hB.block a.block (lt_of_cell hc))⟩
theorem yK.alloc (w:World) (o:Obj):yK w (w.alloc o):=yK.below ((Below.refl _ w).alloc (Nat.le_refl _) o)
theorem yK.own {α:Type} {B k:Nat} {w w1:World} {enc:α→List Value} {a:Option Addr} {l:List α} (hk:yK w w1) (h:zN B w k enc a l):zN B w1 k enc a l :=
 ⟨h.1,fun hl=>by
   obtain ⟨g,e,h⟩:=h.2 hl
   exact ⟨g,e,fun i x hx j v hv=>⟨(hk _ _ (h i x hx j v hv).1).1,(hk _ _ (h i x hx j v hv).1).2.trans (h i x hx j v hv).2⟩⟩⟩
theorem qaN {w w':World} {base e size b0:Nat} (ho:w.ownsRow base e size (.slice (some ⟨b0,0,none⟩) 0 0) 0 []) (hg:w.grownBy w' (some b0)):yK w w':=fun a v hc=>by
 have hne:a.block≠b0:=fun e9=>by
  obtain ⟨_,⟨h1,_⟩ | ⟨g,cap,cur,h1,h2,h3,h4,h5,h6,h7⟩⟩:=ho
  ·cases h1
  ·cases h1
   unfold World.cell? at hc
   rw [e9,h3] at hc
   have:cur.size=0:=by rw [h6];simp
   simp at hc
   have hcs:=Array.eq_empty_of_size_eq_zero this
   subst hcs
   simp at hc
 exact ⟨(World.cell?_of_block (hg.block a.block (lt_of_cell hc) (fun e=>hne (Option.some.inj e)))).trans hc,World.frozen?_of_block (hg.block a.block (lt_of_cell hc) (fun e=>hne (Option.some.inj e)))⟩
theorem qdQ {w:World} {base e size b:Nat} (hb:w.heap.size=b) (h:base≤b):(w.alloc (.cells #[] e)).ownsRow base e size (.slice (some ⟨b,0,none⟩) 0 0) 0 []:=by
 subst hb
 exact World.ownsRow_made w #[] 0 h (by unfold maxLen;omega) (by simp)
theorem zX {α:Type} {w:World} {ops:Array Oper} {o:Oper} {b:Act} {K:Act→World→Prop} {Q:Exit→Act→World→Prop} {E:Prop} (hgd:o.guard=none) (s x:Operand) (t e:TypeId) (ho:o.op=.call { callee:=.builtin .append,args:=#[s,x],argTypes:=#[t,t] }) (i:TypeInfo) (z:Value) (size bytes:Nat) (ht:qj.underlying t=some (.slice e)) (hi:qj.info? e=some i) (hz:i.zero=some z) (hsize:i.size=size) (hby:i.bytes=bytes) (hzs:z.cells.size=size) (hsz:0 < size) (hb:bytes≤1000) (enc:α→List Value) (he:∀x,(enc x).length=size) (l:List α) (hone:∀u∈l.flatMap enc,u.oneCell'=true) (a:Option Addr) (c n:Nat) (hn:l.length=n) (hln:n≤20) (hnc:a=none→c=0) (base b0:Nat) (hown:w.ownsRow base e size (.slice (some ⟨b0,0,none⟩) 0 0) 0 []) (hbase:base≤w.heap.size) (hs:b.eval s=.slice (some ⟨b0,0,none⟩) 0 0) (hx:b.eval x=.slice a n c) (hr:qh w size enc a l)
 (h:∀g cap w',n≤cap→zN base w' size enc (some ⟨g,0,none⟩) l→yK w w'→w.grownBy w' (some b0)→((0 < n→g=b0∨g=w.heap.size)∧g < w'.heap.size)→K (b.put o.dst (.slice (some ⟨g,0,none⟩) n cap)) w'):if Region.wanted o (yielded ops b.tmps)=true then Oper.wp qj o b w K Q else E:=by
 have hw:Region.wanted o (yielded ops b.tmps)=true:=by simp [Region.wanted,hgd]
 rw [if_pos hw]
 cases a with
 | none =>
   obtain rfl:c=0:=hnc rfl
   have hl:l=[]:=by
    cases l with
    | nil=>rfl
    | cons y l=>obtain ⟨_,_,e,_⟩:=hr (by simp);cases e
   subst hl
   obtain rfl:0=n:=hn
   have hrun:=run_append_owned_none (P:=qj) (w:=w) base t o.type e i size ht hi _ 0 [] hown
   unfold Oper.wp
   simp [execOp,ho,resolve,invoke,builtin,hs,hx,hrun,Result.andThen]
   exact h b0 0 w (Nat.le_refl _) ⟨fun p hp=>by cases hp;exact (hown.lt _ rfl).1,fun hl=>by simp at hl⟩ (yK.refl w) ⟨rfl,rfl,rfl,Nat.le_refl _,fun _ _ _=>rfl⟩ ⟨fun h=>absurd h (Nat.lt_irrefl _),(hown.lt _ rfl).2⟩
 | some ad =>
   have hbb:(0+n) * bytes≤140737488355328:=Nat.le_trans (Nat.mul_le_mul (show 0+n≤20 by omega) hb) (by decide)
   rcases Nat.eq_zero_or_pos n with h0 | h0
   ·refine wp_append_own w s x t ho base e i z size bytes ht hi hz hsize hby hzs hsz _ 0 [] hs hown ad n c (l.flatMap enc) hx (by rw [yh he,hn]) (fun j u hu=>xJ he hsz hr j u hu) hone (by unfold maxLen;omega) hbb hbase ?_
    intro v1 w3 hown1 hgrow1 hnil1
    rw [List.nil_append] at hown1
    obtain ⟨g,cap,e1,e4,e5⟩:=qW he hown1 (fun e=>by have:=(hnil1.1 e).1;cases this)
    rw [Nat.zero_add] at e1 e4
    subst e1
    exact h g cap w3 e4 e5 (qaN hown hgrow1) hgrow1 ⟨fun h=>by omega,(hown1.lt _ rfl).2⟩
   ·refine wp_append_lies w s x t ho base e i z size bytes ht hi hz hsize hby hzs hsz _ 0 [] hs hown ad n c (l.flatMap enc) hx (by rw [yh he,hn]) (fun j u hu=>xJ he hsz hr j u hu) hone h0 (by unfold maxLen;omega) hbb hbase _ rfl ?_
    intro g cap w3 hown1 hgrow1 hor hlt
    rw [List.nil_append] at hown1
    obtain ⟨g',cap',e1,e4,e5⟩:=qW he hown1 (fun e=>by cases e)
    cases e1
    rw [Nat.zero_add] at e4 ⊢
    refine h g cap w3 e4 e5 (qaN hown hgrow1) hgrow1 ⟨fun _=>?_,hlt⟩
    rcases hor with h9 | h9
    ·left;cases h9;rfl
    ·exact .inr h9
end Go.Proofs.Tryz
