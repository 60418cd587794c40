/-
  Lemmas about the program and the machine (B38 to C49), upon which the last text of this claim rests; no condition.
-/
import Derived.Test.YtnpjncjnmpfgpaaGreatDoorY07
import Derived.Test.YtnpjncjnmpfgpaaGreatDoorY24
import Derived.Test.YtnpjncjnmpfgpaaGreatDoorY13
import Derived.Test.YtnpjncjnmpfgpaaGreatDoorY15
set_option linter.unusedSimpArgs false
set_option linter.unusedVariables false
namespace Go.Proofs.Tryz
open Go Go.Load Go.RowKit
theorem grown_ok {B:Bk} (hc:checkN B=0) {n:Nat} {l:List Grp} (hs:qM (qo B n).gs l):l.length=B.gs.length∧∀g∈l,0≤g.trunks∧g.trunks≤7∧∀x∈g.traffic,0≤x.1∧1≤x.2∧x.2≤4:=by
 have hV:=qN hc
 rw [YE] at hs
 have hl:l.length=B.gs.length:=by rw [hs.1,List.length_map]
 refine ⟨hl,fun g hg=>?_⟩
 obtain ⟨i,hi,rfl⟩:=List.getElem_of_mem hg
 have hi':i < B.gs.length:=by omega
 obtain ⟨_,s2,s3⟩:=hs.2 i (yrG B.growth n B.gs[i]) l[i] (by rw [List.getElem?_map,List.getElem?_eq_getElem hi'];rfl) (List.getElem?_eq_getElem hi)
 have hG:=hV.grp B.gs[i] (List.getElem_mem _)
 have t0:=hG.tr0
 have t7:=hG.tr7
 have s2:l[i].trunks=B.gs[i].trunks:=s2
 refine ⟨by omega,by omega,fun x hx=>?_⟩
 rw [s3] at hx
 obtain ⟨y,hy,rfl⟩:=List.mem_map.1 (show x∈B.gs[i].traffic.map (jR B.growth n) from hx)
 have ht:=hG.traf y hy
 obtain ⟨a,b⟩:=Qe hV.num.2.1.1 ht n
 rw [b]
 exact ⟨a,ht.2⟩
theorem qei {B:Bk} {n:Nat} {l:List Grp} (hs:qM (qo B n).gs l) (ga:Option Addr) (gc:Nat):checkN { B with gs:=l,ga:=ga,gc:=gc }=checkN (qo B n):=by
 rw [← QF hs ga gc]
 have e:=yc B n
 simp only [e.1,e.2.1,e.2.2.1]
theorem qdo (B:Bk) (n:Nat) {l:List Grp} {ga:Option Addr} {gc:Nat} (w:World) (hc:checkN B=0) (hs:qM (qo B n).gs l) (hb:BookAt w { B with gs:=l,ga:=ga,gc:=gc }) :
 Calls qf 72 #[.agg #[.int .i64 B.lim.1,.int .i64 B.lim.2,.int .i64 B.growth,.int .i64 B.hours,.slice ga l.length gc]] w fun e w'=>e=.returned (.int .i64 (badI (za (qo B n) 0 (qo B n).gs)))∧Below w.heap.size w w':=by
 have hV:=qN hc
 obtain ⟨h1,h2⟩:=grown_ok hc hs
 have h:=rBad_any { B with gs:=l,ga:=ga,gc:=gc } w hb hV.num.1 (by show 1≤l.length;rw [h1];exact hV.len1) (by show l.length≤4;rw [h1];exact hV.len4) h2
 rw [ZG (B:=qo B n) (by rw [(yc B n).1]) hs] at h
 exact h
def qcC (B:Bk) (n:Nat) (A:Bk):Prop:=(checkN (qo B n)=0∧A.lim=B.lim∧A.growth=B.growth∧A.hours=B.hours∧qM (qo B n).gs A.gs)∨(checkN (qo B n)≠0∧A=bkZ)
set_option maxHeartbeats 8000000 in
set_option maxRecDepth 100000 in
theorem rGrow_ok (B:Bk) (N:Nat) (w:World) (hb:BookAt w B) (hc:checkN B=0) (hN:N≤6):Calls qf 18 #[bv B,.int .i64 N] w fun e w'=>(∃A,e=.returned (.tuple #[bv A,.int .i64 (checkN (qo B N))])∧BookAt w' A∧qcC B N A)∧Below w.heap.size w w':=by
 have hck:=fun W (hB:Below w.heap.size w W)=>Qm B W (hb.keep hB)
 rw [hc] at hck
 have hin:=fun W=>yJ (N:Int) 0 6 W ⟨by omega,by omega⟩
 have hgo:=fun W (hB:Below w.heap.size w W)=>Ym B N W (hb.keep hB) hc hN
 have HCK:=Lib.hid fun (l:List Grp) (ga:Option Addr) (gc:Nat) (hs:qM (qo B N).gs l)=>qei hs ga gc
 obtain ⟨GS,hGS⟩:∃GS,(qo B N).gs=GS:=⟨_,rfl⟩
 have HGO:Hid (∀A:Bk,A.lim=B.lim→A.growth=B.growth→A.hours=B.hours→qM GS A.gs→checkN (qo B N)=0→qcC B N A):=Lib.hid fun A e1 e2 e3 e4 e5=>.inl ⟨e5,e1,e2,e3,by rw [hGS];exact e4⟩
 have HGN:Hid (checkN (qo B N)≠0→qcC B N bkZ):=Lib.hid fun e=>.inr ⟨e,rfl⟩
 rw [hGS] at hgo HCK
 generalize checkN (qo B N)=R at *
 generalize qcC B N=GR at *
 have hrb:R≠0→(R != 0)=true:=fun h=>bne_iff_ne.2 h
 have HRB:=Lib.hid hrb
 clear hrb hGS hc hb
 obtain ⟨lim,gr,hr,gs,ga,gc⟩:=B
 simp only [bv] at *
 go_enter s18,ntmps18
 go_upto_region 6 with (first | (go_at_call 11;(with_reducible refine (hck _ (by go_grown)).mono ?_);rintro e w1 ⟨rfl,hB1⟩;(first | (replace hB:=bcl (by with_reducible assumption) hB1) | (replace hB:=bcl (by go_grown) hB1) | (have hB:=hB1));(try clear hc hg hz);obtain ⟨hc,hg⟩:=qy hB;have hz:=hB.size;clear hB1;(try simp at hz);(try have hlt0:w.heap.size < w1.heap.size:=by omega)) | (go_at_call 51;(with_reducible refine (hin _).mono ?_);rintro e w1 ⟨rfl,rfl⟩))
 have hBW:Below w.heap.size w w1:=bcl (w:=w) (by go_grown) hB
 have hF:Five w1 w.heap.size (.int .i64 lim.1) (.int .i64 lim.2) (.int .i64 gr) (.int .i64 hr) (.slice ga gs.length gc):=⟨⟨by go_cell,by go_cell,by go_cell,by go_cell,by go_cell⟩,⟨by go_cell,by go_cell,by go_cell,by go_cell,by go_cell⟩⟩
 have hO:Five w1 (w.heap.size+1) (.int .i64 0) (.int .i64 0) (.int .i64 0) (.int .i64 0) (.slice none 0 0):=⟨⟨by go_cell,by go_cell,by go_cell,by go_cell,by go_cell⟩,⟨by go_cell,by go_cell,by go_cell,by go_cell,by go_cell⟩⟩
 have HZ1:w.heap.size+1 < w1.heap.size:=lt_of_cell hO.c.1
 clear hc hg hB hz hck hin
 obtain ⟨z,hz⟩:∃z,z=w.heap.size:=⟨_,rfl⟩
 rw [← hz] at hF hO HZ1 ⊢
 have HZ:=Lib.hid hz
 clear hz
 obtain ⟨⟨q0,q1,q2,q3,q4⟩,_⟩:=id hF
 go_upto_region 7 with (go_at_call 68;(with_reducible refine (hgo _ hBW).mono ?_);rintro e w2 ⟨⟨l,g,gc',rfl,hs,hb2⟩,hB2⟩)
 have hB3:=hB2.alloc hB2.size (.cells #[.int .i64 lim.1,.int .i64 lim.2,.int .i64 gr,.int .i64 hr,.slice (some ⟨g,0,none⟩) l.length gc'] 26)
 have hA:=Five.new w2 (.int .i64 lim.1) (.int .i64 lim.2) (.int .i64 gr) (.int .i64 hr) (.slice (some ⟨g,0,none⟩) l.length gc') 26
 have hb3:=hb2.keep ((Below.refl _ w2).alloc (Nat.le_refl _) (.cells #[.int .i64 lim.1,.int .i64 lim.2,.int .i64 gr,.int .i64 hr,.slice (some ⟨g,0,none⟩) l.length gc'] 26))
 have hO3:=hO.keep hB3
 have hBW3:=bcl hBW hB3
 generalize w2.alloc (.cells #[.int .i64 lim.1,.int .i64 lim.2,.int .i64 gr,.int .i64 hr,.slice (some ⟨g,0,none⟩) l.length gc'] 26)=W3 at *
 generalize w2.heap.size=q at *
 have hck3:=Qm _ W3 hb3.book
 rw [HCK.out l (some ⟨g,0,none⟩) gc' hs] at hck3
 simp only [bv] at hck3
 obtain ⟨⟨a0,a1,a2,a3,a4⟩,_⟩:=id hA
 have HB3:=Lib.hid hb3
 have HS:=Lib.hid hs
 have HBW3:=Lib.hid hBW3
 clear hs hb2 hb3 q0 q1 q2 q3 q4 hF hO hB2 hB3 hBW hBW3 hgo
 by_cases hr0:R=0
 ·subst hr0
  go_wp2_with (go_at_call 11;(with_reducible refine hck3.mono ?_);rintro e w4 ⟨rfl,hB⟩;obtain ⟨⟨a0,a1,a2,a3,a4⟩,_⟩:=hA.keep hB;obtain ⟨⟨o0,o1,o2,o3,o4⟩,⟨p0,p1,p2,p3,p4⟩⟩:=hO3.keep hB)
  have hzz:w.heap.size≤z+1:=by rw [HZ.out];exact Nat.le_succ _
  refine xB results18 zV zH rfl rfl o0 o1 o2 o3 o4 ⟨⟨⟨lim,gr,hr,l,some ⟨g,0,none⟩,gc'⟩,rfl,?_,HGO.out _ rfl rfl rfl HS.out (by first | rfl | trivial)⟩,Below.set5 (bcl HBW3.out hB) hzz⟩
  exact (HB3.out.keep hB).set5 HZ1
 ·have hr1:=HRB.out hr0
  go_wp2_with (go_at_call 11;(with_reducible refine hck3.mono ?_);rintro e w4 ⟨rfl,hB⟩;obtain ⟨⟨o0,o1,o2,o3,o4⟩,⟨p0,p1,p2,p3,p4⟩⟩:=hO3.keep hB)
  have hzz:w.heap.size≤z+1:=by rw [HZ.out];exact Nat.le_succ _
  exact xB results18 zV zH rfl rfl o0 o1 o2 o3 o4 ⟨⟨bkZ,rfl,Xt _,HGN.out hr0⟩,Below.set5 (bcl HBW3.out hB) hzz⟩
def jl (B:Bk) (n:Int):Int:=if checkN B=0 then (if 0≤n∧n≤6 then checkN (qo B n.toNat) else 1) else checkN B
def Qy (B:Bk) (n:Int) (A:Bk):Prop:=(jl B n=0∧A.lim=B.lim∧A.growth=B.growth∧A.hours=B.hours∧qM (qo B n.toNat).gs A.gs)∨(jl B n≠0∧A=bkZ)
theorem qcC.ends {B:Bk} {N:Nat} {A:Bk} (h:qcC B N A) (hc:checkN B=0) (hN:N≤6):Qy B (N:Int) A:=by
 have e:jl B (N:Int)=checkN (qo B N):=by unfold jl;rw [if_pos hc,if_pos ⟨by omega,by omega⟩,Int.toNat_natCast]
 unfold Qy
 rw [e,Int.toNat_natCast]
 exact h
theorem Qy.same {B A A':Bk} {n:Int} (h:Qy B n A) (h':Qy B n A'):A'.lim=A.lim∧A'.growth=A.growth∧A'.hours=A.hours∧qM A.gs A'.gs:=by
 rcases h with ⟨k,a,b,c,d⟩ | ⟨k,rfl⟩
 ·rcases h' with ⟨_,a',b',c',d'⟩ | ⟨k',_⟩
  ·exact ⟨a'.trans a.symm,b'.trans b.symm,c'.trans c.symm,d.symm.trans d'⟩
  ·exact absurd k k'
 ·rcases h' with ⟨k',_⟩ | ⟨_,rfl⟩
  ·exact absurd k' k
  ·exact ⟨rfl,rfl,rfl,.refl _⟩
set_option maxHeartbeats 4000000 in
set_option maxRecDepth 100000 in
theorem qfF (B:Bk) (n:Int) (w:World) (hb:BookAt w B):Calls qf 18 #[bv B,.int .i64 n] w fun e w'=>(∃A,e=.returned (.tuple #[bv A,.int .i64 (jl B n)])∧BookAt w' A∧Qy B n A)∧Below w.heap.size w w':=by
 have hck:=fun W (hB:Below w.heap.size w W)=>Qm B W (hb.keep hB)
 by_cases hc:checkN B=0
 ·by_cases hn:0≤n∧n≤6
  ·obtain ⟨N,rfl⟩:=Int.eq_ofNat_of_zero_le hn.1
   refine (rGrow_ok B N w hb hc (by omega)).mono fun e w' ⟨⟨A,e1,e2,e3⟩,e4⟩=>⟨⟨A,?_,e2,e3.ends hc (by omega)⟩,e4⟩
   have e:jl B (N:Int)=checkN (qo B N):=by unfold jl;rw [if_pos hc,if_pos hn,Int.toNat_natCast]
   rw [e]
   exact e1
  ·have ha:jl B n=1:=by unfold jl;rw [if_pos hc,if_neg hn]
   have HE:Qy B n bkZ:=.inr ⟨by rw [ha];decide,rfl⟩
   have HEH:=Lib.hid HE
   rw [ha]
   rw [hc] at hck
   have hin:=fun W=>ZR n 0 6 W hn
   generalize Qy B n=GE at *
   obtain ⟨lim,gr,hr,gs,ga,gc⟩:=B
   simp only [bv] at *
   clear hb hc ha HE hn
   go_enter s18,ntmps18
   go_wp2_with (first | (go_at_call 11;(with_reducible refine (hck _ (by go_grown)).mono ?_);rintro e w1 ⟨rfl,hB1⟩;(first | (replace hB:=bcl (by with_reducible assumption) hB1) | (replace hB:=bcl (by go_grown) hB1) | (have hB:=hB1));(try clear hc hg hz);obtain ⟨hc,hg⟩:=qy hB;have hz:=hB.size;clear hB1;(try simp at hz);(try have hlt0:w.heap.size < w1.heap.size:=by omega)) | (go_at_call 51;(with_reducible refine (hin _).mono ?_);rintro e w1 ⟨rfl,rfl⟩))
   refine xB results18 zV zH rfl rfl (u0:=.int .i64 0) (u1:=.int .i64 0) (u2:=.int .i64 0) (u3:=.int .i64 0) (u4:=.slice none 0 0) (by go_cell) (by go_cell) (by go_cell) (by go_cell) (by go_cell) ⟨⟨bkZ,rfl,Xt _,HEH.out⟩,Below.set5 (bcl (w:=w) (by go_grown) hB) (Nat.le_succ _)⟩
 ·have ha:jl B n=checkN B:=by unfold jl;rw [if_neg hc]
  have HE:Qy B n bkZ:=.inr ⟨by rw [ha];exact hc,rfl⟩
  have HEH:=Lib.hid HE
  rw [ha]
  have hb0:(checkN B != 0)=true:=bne_iff_ne.2 hc
  generalize Qy B n=GE at *
  generalize checkN B=a at *
  obtain ⟨lim,gr,hr,gs,ga,gc⟩:=B
  simp only [bv] at *
  clear hb hc ha HE
  go_enter s18,ntmps18
  go_wp2_with (go_at_call 11;(with_reducible refine (hck _ (by go_grown)).mono ?_);rintro e w1 ⟨rfl,hB1⟩;(first | (replace hB:=bcl (by with_reducible assumption) hB1) | (replace hB:=bcl (by go_grown) hB1) | (have hB:=hB1));(try clear hc hg hz);obtain ⟨hc,hg⟩:=qy hB;have hz:=hB.size;clear hB1;(try simp at hz);(try have hlt0:w.heap.size < w1.heap.size:=by omega))
  refine xB results18 zV zH rfl rfl (u0:=.int .i64 0) (u1:=.int .i64 0) (u2:=.int .i64 0) (u3:=.int .i64 0) (u4:=.slice none 0 0) (by go_cell) (by go_cell) (by go_cell) (by go_cell) (by go_cell) ⟨⟨bkZ,rfl,Xt _,HEH.out⟩,Below.set5 (bcl (w:=w) (by go_grown) hB) (Nat.le_succ _)⟩
theorem year_at {B:Bk} {j:Nat} (h:j < 7):zy B (7 - j) j=match za (qo B j) 0 (qo B j).gs with | some i=>some (j,i) | none=>zy B (7 - (j+1)) (j+1):=by
 rw [show 7 - j=(7 - (j+1))+1 by omega]
 rfl
set_option maxHeartbeats 8000000 in
set_option maxRecDepth 100000 in
theorem qfH (B:Bk) (w:World) (hb:BookAt w B):Calls qf 21 #[bv B] w fun e w'=>e=.returned (qbJ B)∧Below w.heap.size w w':=by
 have hck:=fun W (hB:Below w.heap.size w W)=>Qm B W (hb.keep hB)
 unfold qbJ
 by_cases hc:checkN B=0
 ·rw [if_pos hc]
  rw [hc] at hck
  obtain ⟨bf,hbf⟩:∃bf:Nat→Option Nat,∀j,za (qo B j) 0 (qo B j).gs=bf j:=⟨_,fun _=>rfl⟩
  obtain ⟨GS,hGS⟩:∃GS:Nat→List Grp,∀j,(qo B j).gs=GS j:=⟨_,fun _=>rfl⟩
  have hgo:=Lib.hid fun (j:Nat) (hj:j≤6) W (hB:Below w.heap.size w W)=>Ym B j W (hb.keep hB) hc hj
  have hbd:=Lib.hid fun (j:Nat) (l:List Grp) (ga:Option Addr) (gc:Nat) W (hs:qM (qo B j).gs l) (hB:BookAt W { B with gs:=l,ga:=ga,gc:=gc })=>qdo B j W hc hs hB
  obtain ⟨Y,hY⟩:∃Y:Nat→Option (Nat×Nat),∀j,Y j=zy B (7 - j) j:=⟨fun j=>zy B (7 - j) j,fun _=>rfl⟩
  have hY0:zy B 7 0=Y 0:=(hY 0).symm
  have HY7:=Lib.hid (show Y 7=none from hY 7)
  have HYN:=Lib.hid fun (j:Nat) (h:j < 7)=>(show Y j=match za (qo B j) 0 (qo B j).gs with | some i=>some (j,i) | none=>Y (j+1) by rw [hY,hY,year_at h])
  rw [hY0]
  simp only [hbf] at hbd HYN
  simp only [hGS] at hgo hbd
  obtain ⟨lim,gr,hr,gs,ga,gc⟩:=B
  simp only [bv] at *
  clear hb hc hY hY0 hbf hGS
  go_enter s21,ntmps21
  go_upto_region 4 with (go_at_call 11;(with_reducible refine (hck _ (by go_grown)).mono ?_);rintro e w1 ⟨rfl,hB1⟩;(first | (replace hB:=bcl (by with_reducible assumption) hB1) | (replace hB:=bcl (by go_grown) hB1) | (have hB:=hB1));(try clear hc hg hz);obtain ⟨hc,hg⟩:=qy hB;have hz:=hB.size;clear hB1;(try simp at hz);(try have hlt0:w.heap.size < w1.heap.size:=by omega))
  have hF:Five w1 w.heap.size (.int .i64 lim.1) (.int .i64 lim.2) (.int .i64 gr) (.int .i64 hr) (.slice ga gs.length gc):=⟨⟨by go_cell,by go_cell,by go_cell,by go_cell,by go_cell⟩,⟨by go_cell,by go_cell,by go_cell,by go_cell,by go_cell⟩⟩
  have hBW:Below w.heap.size w w1:=bcl (w:=w) (by go_grown) hB
  clear hc hg hB hz hck
  obtain ⟨z,hz⟩:∃z,z=w.heap.size:=⟨_,rfl⟩
  rw [← hz] at hF ⊢
  have HZ:=Lib.hid hz
  clear hz
  go_wp2
  go_loopw [7] (fun i wr=>∃j:Nat,i=.int .i64 j∧j≤7∧Hid (Y 0=Y j)∧Below w1.heap.size w1 wr) (fun i _=>7 - (intOf i).toNat)
  case atStart=>exact ⟨0,rfl,by omega,Lib.hid rfl,.refl _ _⟩
  case round =>
   obtain ⟨j,rfl,hj,hYj,hBr⟩:=hrel
   obtain ⟨⟨q0,q1,q2,q3,q4⟩,_⟩:=hF.keep hBr
   have hB0:=bcl hBW hBr
   by_cases hlt:j < 7
   ·have hn:=HYN.out j hlt
    have HNN:=Lib.hid hn
    have hj6:j≤6:=by omega
    have j6:(j:Int)≤6:=by omega
    clear hn
    go_upto_region 8 with (first | (go_at_call 68;(with_reducible refine (hgo.out j hj6 _ hB0).mono ?_);rintro e w2 ⟨⟨l,g,gc',rfl,hs,hb2⟩,hB2⟩) | (go_at_call 72;(with_reducible refine (hbd.out j l (some ⟨g,0,none⟩) gc' _ hs hb2.book).mono ?_);rintro e w3 ⟨rfl,hB3⟩))
    have hB4:=Lib.hid (bcl hBr (Below.call hB2 hB3 (Nat.le_refl _)))
    clear hs hb2 hB2 hB3 q0 q1 q2 q3 q4 hB0 hBr
    cases hb:bf j with
    | some i =>
      have e:badI (some i)=(i:Int):=rfl
      rw [e]
      have i0:(0:Int)≤(i:Int):=Int.natCast_nonneg i
      have HE:Hid (Y 0=some (j,i)):=Lib.hid (by rw [hYj.out,HNN.out,hb])
      clear hb e
      go_wp2
      exact YS results21 rfl rfl rfl rfl ⟨by rw [HE.out];rfl,bcl hBW hB4.out⟩
    | none =>
      have e:badI none=-1:=rfl
      rw [e]
      have HE:Hid (Y 0=Y (j+1)):=Lib.hid (by rw [hYj.out,HNN.out,hb])
      clear hb e
      go_wp2
      go_roundw
      case rel=>exact ⟨j+1,rfl,by omega,HE,hB4.out⟩
      case measure=>simp [intOf];omega
   ·obtain rfl:j=7:=by omega
    have HE:Hid (Y 0=none):=Lib.hid (by rw [hYj.out,HY7.out])
    clear hYj
    go_wp2
    exact YS results21 rfl rfl rfl rfl ⟨by rw [HE.out];rfl,hB0⟩
 ·rw [if_neg hc]
  have hb0:(checkN B != 0)=true:=bne_iff_ne.2 hc
  generalize checkN B=a at *
  obtain ⟨lim,gr,hr,gs,ga,gc⟩:=B
  simp only [bv] at *
  clear hb hc
  go_enter s21,ntmps21
  go_wp2_with (go_at_call 11;(with_reducible refine (hck _ (by go_grown)).mono ?_);rintro e w1 ⟨rfl,hB1⟩;(first | (replace hB:=bcl (by with_reducible assumption) hB1) | (replace hB:=bcl (by go_grown) hB1) | (have hB:=hB1));(try clear hc hg hz);obtain ⟨hc,hg⟩:=qy hB;have hz:=hB.size;clear hB1;(try simp at hz);(try have hlt0:w.heap.size < w1.heap.size:=by omega))
  exact YS results21 rfl rfl rfl rfl ⟨rfl,bcl (w:=w) (by go_grown) hB⟩
end Go.Proofs.Tryz
section
namespace Go.Proofs.Tryz
open Go Go.Load Go.RowKit
open Go.Proofs.YtnpjncjnmpfgpaaGreatDoor (BookIn)
theorem s4:qf.funcs[4]? = some f4:=by kernel_rfl
theorem qdH (B:Bk):∃(y k:Int) (fd:Bool) (a:Int),qbJ B=.tuple #[.int .i64 y,.int .i64 k,.bool fd,.int .i64 a]:=by
 unfold qbJ
 split
 ·cases zy B 7 0 with
  | some p=>exact ⟨_,_,_,_,rfl⟩
  | none=>exact ⟨_,_,_,_,rfl⟩
 ·exact ⟨_,_,_,_,rfl⟩
theorem qcR (l:List (Int×Int)) (p:Int):∃x y a:Int,qaY l p=.tuple #[.agg #[.int .i64 x,.int .i64 y],.int .i64 a]:=by
 unfold qaY
 split
 ·split
  ·exact ⟨_,_,_,rfl⟩
  ·exact ⟨_,_,_,rfl⟩
 ·exact ⟨_,_,_,rfl⟩
theorem Grow_gen (B:Bk) (n:Int) (w:World) (hb:BookAt w B) (hG:Globs w):Calls qf 17 #[bv B,.int .i64 n] w fun e w'=>(∃A,e=.returned (.tuple #[bv A,.int .i64 (jl B n)])∧BookAt w' A∧Qy B n A)∧Below w.heap.size w w' :=
 (Grow_any B n w hb hG).mono fun e w' q=>⟨by
   have k:=q.1
   unfold qdR at k
   by_cases hc:checkN B=0
   ·rw [if_neg (fun e=>e hc)] at k
    by_cases hn:0≤n∧n≤6
    ·rw [if_neg (by rw [yT.2 hn];decide)] at k
     have ha:jl B n=checkN (qo B n.toNat):=by unfold jl;rw [if_pos hc,if_pos hn]
     rw [ha]
     unfold Qy
     rw [ha]
     unfold Xq at k
     by_cases h0:checkN (qo B n.toNat)=0
     ·rw [if_neg (fun e=>e h0)] at k
      obtain ⟨g,gc,l,tb,e1,e2⟩:=k
      exact ⟨{ B with gs:=l,ga:=some ⟨g,0,none⟩,gc:=gc },by rw [h0];exact e1,e2.book hb.small,.inl ⟨h0,rfl,rfl,rfl,e2.1⟩⟩
     ·rw [if_pos h0] at k
      exact ⟨bkZ,k,Xt _,.inr ⟨h0,rfl⟩⟩
    ·have hb0:btw n 0 6=false:=by
      cases hb0:btw n 0 6 with
      | false=>rfl
      | true=>exact absurd (yT.1 hb0) hn
     rw [if_pos hb0] at k
     have ha:jl B n=1:=by unfold jl;rw [if_pos hc,if_neg hn]
     rw [ha]
     exact ⟨bkZ,k,Xt _,.inr ⟨by rw [ha];decide,rfl⟩⟩
   ·rw [if_pos hc] at k
    have ha:jl B n=checkN B:=by unfold jl;rw [if_neg hc]
    rw [ha]
    exact ⟨bkZ,k,Xt _,.inr ⟨by rw [ha];exact hc,rfl⟩⟩,q.2⟩
set_option maxHeartbeats 8000000 in
set_option maxRecDepth 100000 in
theorem XN (HL:∀W,Globs W→Calls qf 7 #[] W fun e w'=>e=.returned (.bool true)∧Below W.heap.size W w') (B:Bk) (n p:Int) (l:List (Int×Int)) (a:Option Addr) (c:Nat) (w:World) (hG:Globs w) (hI:BookIn w B) (hb:BookAt w B) (hm:modest B=true) (hl:l.length≤20) (hP:1≤l.length→∃b o,a=some ⟨b,o,none⟩∧qE w b o l) :
 Calls qf 4 #[bv B,.int .i64 n,.slice a l.length c,.int .i64 p] w fun e w'=>e=.returned (.bool true)∧Below w.heap.size w w':=by
 have hgr:=fun W (h:Below w.heap.size w W)=>JE B W (hI.keep h)
 simp only [hm,Bool.not_true] at hgr
 have hch:=fun W (h:Below w.heap.size w W)=>Grow_gen B n W (hb.keep h) (hG.keep h)
 have hrc:=fun W (h:Below w.heap.size w W)=>qfF B n W (hb.keep h)
 have hye:=fun W (h:Below w.heap.size w W)=>qbP B W (hb.keep h) (hG.keep h)
 have hry:=fun W (h:Below w.heap.size w W)=>qfH B W (hb.keep h)
 obtain ⟨yy,yk,yf,ya,ey⟩:=qdH B
 simp only [ey] at hye hry
 have hfi:=fun W (h:Below w.heap.size w W)=>qbM l a c p W (fun hl=>let ⟨b,o,e,q⟩:=hP hl;⟨b,o,e,q.keep h⟩)
 have hrf:=fun W (h:Below w.heap.size w W)=>qfE l a c p W (fun hl=>let ⟨b,o,e,q⟩:=hP hl;⟨b,o,e,q.keep h⟩)
 obtain ⟨f1,f2,fa,ef⟩:=qcR l p
 simp only [ef] at hfi hrf
 have hsame:∀A A':Bk,Qy B n A→Qy B n A'→A'.lim=A.lim∧A'.growth=A.growth∧A'.hours=A.hours∧qM A.gs A'.gs:=fun _ _ h h'=>h.same h'
 have HSA:=Lib.hid hsame
 have HG:=Lib.hid hG
 have hl':(l.length:Int)≤20:=by omega
 generalize jl B n=ca at *
 generalize hCO:Qy B n=CO at *
 clear hCO ey ef hm hb hI hsame hP
 obtain ⟨lim,gr,hr,gs,ga,gc⟩:=B
 simp only [bv] at hgr hch hrc hye hry ⊢
 go_enter s4,ntmps4
 go_upto_region 3 with (go_at_call 6;(with_reducible refine (hgr _ (by go_grown)).mono ?_);rintro e w1 ⟨rfl,hB1⟩;(first | (replace hB:=bcl (by with_reducible assumption) hB1) | (replace hB:=bcl (by go_grown) hB1) | (have hB:=hB1));(try clear hc hg hz);obtain ⟨hc,hg⟩:=qy hB;have hz:=hB.size;clear hB1;(try simp at hz);(try have hlt0:w.heap.size < w1.heap.size:=by omega))
 obtain ⟨wz,hwz⟩:∃wz,wz=w.heap.size:=⟨_,rfl⟩
 have h:KSt w w1 [(⟨wz,0,none⟩,.int .i64 lim.1),(⟨wz,1,none⟩,.int .i64 lim.2),(⟨wz,2,none⟩,.int .i64 gr),(⟨wz,3,none⟩,.int .i64 hr),(⟨wz,4,none⟩,.slice ga gs.length gc)]:=by
  have hBW:Below w.heap.size w w1:=bcl (w:=w) (by go_grown) hB
  refine ⟨fun p hp=>?_,HG.out.keep hBW,hBW⟩
  simp only [List.mem_cons,List.not_mem_nil,or_false] at hp
  rcases hp with rfl | rfl | rfl | rfl | rfl <;> (rw [hwz];go_cell)
 obtain ⟨⟨q0,q1,q2,q3,q4⟩,_⟩:=h.c5
 have qz:=lt_of_cell q0
 rw [← hwz]
 clear hc hg hB hz hwz hgr
 go_upto_region 4 with (go_at_call 17;(with_reducible refine (hch _ h.bw).mono ?_);rintro e w9 ⟨⟨⟨Al,Ag,Ah,As,Aa,Ac⟩,rfl,hAt,hAo⟩,hB⟩;simp only [bv];replace h:=(h.call hB).box5 (.int .i64 Al.1) (.int .i64 Al.2) (.int .i64 Ag) (.int .i64 Ah) (.slice Aa As.length Ac) 26;replace hAt:=Lib.hid (hAt.keep ((Below.refl _ w9).alloc (Nat.le_refl _) (.cells #[.int .i64 Al.1,.int .i64 Al.2,.int .i64 Ag,.int .i64 Ah,.slice Aa As.length Ac] 26)));clear q0 q1 q2 q3 q4 qz;clear hB;obtain ⟨⟨a0,a1,a2,a3,a4⟩,hq⟩:=h.c5;obtain ⟨⟨q0,q1,q2,q3,q4⟩,_⟩:=hq.c5;clear hq;have az:=lt_of_cell a0;have qz:=lt_of_cell q0)
 go_upto_region 5 with (go_at_call 18;(with_reducible refine (hrc _ h.bw).mono ?_);rintro e w10 ⟨⟨⟨Cl,Cg,Ch,Cs,Ca,Cc⟩,rfl,hCt,hCo⟩,hB⟩;simp only [bv];replace h:=(h.call hB).box5 (.int .i64 Cl.1) (.int .i64 Cl.2) (.int .i64 Cg) (.int .i64 Ch) (.slice Ca Cs.length Cc) 26;replace hAt:=Lib.hid ((hAt.out.keep hB).keep ((Below.refl _ w10).alloc (Nat.le_refl _) (.cells #[.int .i64 Cl.1,.int .i64 Cl.2,.int .i64 Cg,.int .i64 Ch,.slice Ca Cs.length Cc] 26)));replace hCt:=Lib.hid (hCt.keep ((Below.refl _ w10).alloc (Nat.le_refl _) (.cells #[.int .i64 Cl.1,.int .i64 Cl.2,.int .i64 Cg,.int .i64 Ch,.slice Ca Cs.length Cc] 26)));clear a0 a1 a2 a3 a4 az q0 q1 q2 q3 q4 qz;clear hB;obtain ⟨⟨c0,c1,c2,c3,c4⟩,hq⟩:=h.c5;obtain ⟨⟨a0,a1,a2,a3,a4⟩,hq⟩:=hq.c5;obtain ⟨⟨q0,q1,q2,q3,q4⟩,_⟩:=hq.c5;clear hq;have cz:=lt_of_cell c0;have az:=lt_of_cell a0;have qz:=lt_of_cell q0)
 obtain ⟨g1,g2,g3,g4⟩:=HSA.out _ _ hAo hCo
 have hsm:=Same_yes _ hAt.out hCt.out g1 g2 g3 g4
 simp only [bv] at hsm
 clear hch hrc g1 g2 g3 g4 hAo hCo
 go_upto_region 7 with (go_at_call 19;(with_reducible refine hsm.mono ?_);rintro e w11 ⟨rfl,hB⟩;replace h:=h.c5.2.c5.2.call hB;clear c0 c1 c2 c3 c4 a0 a1 a2 a3 a4 q0 q1 q2 q3 q4 cz az qz;clear hB;obtain ⟨⟨q0,q1,q2,q3,q4⟩,_⟩:=h.c5;have qz:=lt_of_cell q0)
 clear hsm hAt hCt
 go_upto_region 8 with (go_at_call 20;(with_reducible refine (hye _ h.bw).mono ?_);rintro e w12 ⟨rfl,hB⟩;replace h:=h.call hB;clear q0 q1 q2 q3 q4 qz;clear hB;obtain ⟨⟨q0,q1,q2,q3,q4⟩,_⟩:=h.c5;have qz:=lt_of_cell q0)
 go_upto_region 9 with (go_at_call 21;(with_reducible refine (hry _ h.bw).mono ?_);rintro e w13 ⟨rfl,hB⟩;replace h:=h.call hB;clear q0 q1 q2 q3 q4 qz;clear hB;obtain ⟨⟨q0,q1,q2,q3,q4⟩,_⟩:=h.c5;have qz:=lt_of_cell q0)
 go_upto_region 12 with (go_at_call 22;(with_reducible refine (hfi _ h.bw).mono ?_);rintro e w14 ⟨rfl,hB⟩;replace h:=(h.call hB).box2 (.int .i64 f1) (.int .i64 f2) 45;clear q0 q1 q2 q3 q4 qz;clear hB;obtain ⟨⟨x0,x1⟩,_⟩:=h.c2;have xz:=lt_of_cell x0)
 go_upto_region 13 with (go_at_call 23;(with_reducible refine (hrf _ h.bw).mono ?_);rintro e w15 ⟨rfl,hB⟩;replace h:=(h.call hB).box2 (.int .i64 f1) (.int .i64 f2) 45;clear x0 x1 xz;clear hB;obtain ⟨⟨y0,y1⟩,hq⟩:=h.c2;obtain ⟨⟨x0,x1⟩,_⟩:=hq.c2;clear hq;have yz:=lt_of_cell y0;have xz:=lt_of_cell x0)
 clear hye hry hfi hrf
 go_wp2_with (go_at_call 7;(refine (HL _ h.gl).mono ?_);rintro e w16 ⟨rfl,hB9⟩)
 go_ret
 exact ⟨rfl,(h.call hB9).bw⟩
set_option maxHeartbeats 8000000 in
set_option maxRecDepth 100000 in
theorem jH (HL:∀W,Globs W→Calls qf 7 #[] W fun e w'=>e=.returned (.bool true)∧Below W.heap.size W w') (B:Bk) (n p:Int) (m:Nat) (a:Option Addr) (c:Nat) (w:World) (hG:Globs w) (hI:BookIn w B) (hm:modest B=false∨20 < m) :
 Calls qf 4 #[bv B,.int .i64 n,.slice a m c,.int .i64 p] w fun e w'=>e=.returned (.bool true)∧Below w.heap.size w w':=by
 have hgr:=fun W (h:Below w.heap.size w W)=>JE B W (hI.keep h)
 have HLL:=fun W (h:Below w.heap.size w W)=>HL W (hG.keep h)
 cases hmo:modest B with
 | false =>
   simp only [hmo,Bool.not_false] at hgr
   obtain ⟨lim,gr,hr,gs,ga,gc⟩:=B
   simp only [bv] at *
   clear hI hm HL hG hmo
   go_enter s4,ntmps4
   go_wp2_with (first | (go_at_call 6;(with_reducible refine (hgr _ (by go_grown)).mono ?_);rintro e w1 ⟨rfl,hB1⟩;have hB:Below w.heap.size w w1:=Below.call (by go_grown) hB1 (by simp)) | (go_at_call 7;(refine (HLL _ hB).mono ?_);rintro e w2 ⟨rfl,hB2⟩))
   go_ret
   exact ⟨rfl,bcl hB hB2⟩
 | true =>
   simp only [hmo,Bool.not_true] at hgr
   have h20:(20:Int) < (m:Int):=by
    rcases hm with h | h
    ·rw [hmo] at h;cases h
    ·omega
   obtain ⟨lim,gr,hr,gs,ga,gc⟩:=B
   simp only [bv] at *
   clear hI hm HL hG hmo
   go_enter s4,ntmps4
   go_wp2_with (first | (go_at_call 6;(with_reducible refine (hgr _ (by go_grown)).mono ?_);rintro e w1 ⟨rfl,hB1⟩;have hB:Below w.heap.size w w1:=Below.call (by go_grown) hB1 (by simp)) | (go_at_call 7;(refine (HLL _ hB).mono ?_);rintro e w2 ⟨rfl,hB2⟩))
   go_ret
   exact ⟨rfl,bcl hB hB2⟩
theorem JG (HL:∀W,Globs W→Calls qf 7 #[] W fun e w'=>e=.returned (.bool true)∧Below W.heap.size W w') (B:Bk) (n p:Int) (l:List (Int×Int)) (a:Option Addr) (c:Nat) (w:World) (hG:Globs w) (hI:BookIn w B) (hc:B.gs.length≤B.gc) (hP:1≤l.length→∃b o,a=some ⟨b,o,none⟩∧qE w b o l) :
 Calls qf 4 #[bv B,.int .i64 n,.slice a l.length c,.int .i64 p] w fun e w'=>e=.returned (.bool true)∧Below w.heap.size w w':=by
 by_cases hl:l.length≤20
 ·cases hm:modest B with
  | false=>exact jH HL B n p l.length a c w hG hI (.inl hm)
  | true=>exact XN HL B n p l a c w hG hI (hI.at (qdi hm) hc) hm hl hP
 ·exact jH HL B n p l.length a c w hG hI (.inr (by omega))
end Go.Proofs.Tryz
end
namespace Go.Proofs.Tryz
open Go Go.Load Go.RowKit
def exC (g a b:Nat):Bk:={ exB g a b with lim:=(1,2) }
theorem e_loss:QL qW (2,1) 2=tv (2,5) 0:=by kernel_rfl
theorem e_lost:QL qL (2,1) 2=tv (4,5) 0:=by kernel_rfl
theorem qep:QL xH (2,1) 2=tv (6,5) 0:=by kernel_rfl
theorem e_enough:qaV (2,1) (1,5)=.tuple #[.int .i64 4,.bool true,.int .i64 0]:=by kernel_rfl
theorem e_bears:qeb 2 1 (1,5)=tv (1,1) 0:=by kernel_rfl
theorem e_over:overN 1 1 (1,1)=tv (1,5) 0:=by kernel_rfl
theorem e_fits:qaY [(2,3),(4,4)] 2=tv (6,7) 0:=by kernel_rfl
section
variable (g a b:Nat)
theorem XU:checkN (exB g a b)=0:=by kernel_rfl
theorem e_check2:checkN (exC g a b)=0:=by kernel_rfl
theorem e_good:Xj (exB g a b) 2=[]:=by kernel_rfl
theorem e_needs:qcq (exB g a b)=[2,4]:=by kernel_rfl
theorem e_best:qaM (exB g a b) 0=.tuple #[.int .i64 1,fv (36,95),.int .i64 0]:=by kernel_rfl
theorem e_spread:qcQ 2 (zx 0 2 (exB g a b).gs)=[1,0]:=by kernel_rfl
theorem e_sum:sumV (exB g a b) 0=.tuple #[.int .i64 1300,.int .i64 0]:=by kernel_rfl
theorem e_good2:Xj (exC g a b) 2=[0,1]:=by kernel_rfl
theorem e_year:qbJ (exC g a b)=.tuple #[.int .i64 1,.int .i64 0,.bool true,.int .i64 0]:=by kernel_rfl
theorem e_busy:qaQ (exB g a b) 0=.tuple #[.int .i64 0,.int .i64 0]:=by kernel_rfl
theorem e_grow:checkN (qo (exB g a b) 1)=0∧(qo (exB g a b) 1).gs.map (·.traffic)=[[(2,1),(2,2)],[(3,1),(2,1)]]:=⟨by kernel_rfl,by kernel_rfl⟩
end
end Go.Proofs.Tryz
