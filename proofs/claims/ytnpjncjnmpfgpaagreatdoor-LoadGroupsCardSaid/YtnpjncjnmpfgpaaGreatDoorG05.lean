/-
  Lemmas about the program and the machine (C23 to C23), upon which the last text of this claim rests; no condition.
-/
import Derived.Test.YtnpjncjnmpfgpaaGreatDoorG04
set_option linter.unusedSimpArgs false
set_option linter.unusedVariables false
namespace Go.Proofs.Tryz
open Go Go.Load Go.RowKit
def Ye (x y:Int×Int):Bool:=above (low x.1 x.2) (low y.1 y.2)
set_option maxHeartbeats 1000000 in
theorem qdw (x y:Int×Int) (hx:yj x) (hy:yj y) (w:World):Calls qf 45 #[fv x,fv y] w fun e w'=>e=.returned (.bool (Ye x y))∧Below w.heap.size w w':=by
 obtain ⟨k1,k2,k3,k4⟩:=jP hx.1.1 hx.1.2 hx.2.1 hx.2.2
 obtain ⟨j1,j2,j3,j4⟩:=jP hy.1.1 hy.1.2 hy.2.1 hy.2.2
 have hof:=fun W=>YF x W hx.1.1 (by have:=hx.2.1;omega) (by have:=hx.1.2;omega) (by have:=hx.2.2;omega)
 have hof2:=fun W=>YF y W hy.1.1 (by have:=hy.2.1;omega) (by have:=hy.1.2;omega) (by have:=hy.2.2;omega)
 unfold Ye
 generalize low x.1 x.2=a at *
 generalize low y.1 y.2=m at *
 have hab:=fun W=>Yf a m W k1 (by omega) j1 (by omega) (by omega) (by omega) (by omega) (by omega)
 simp only [fv] at *
 clear hx hy
 go_enter s45,ntmps45
 go_wp2_with fail
 go_region_held3 (fun w'=>w'.cell? ⟨w.heap.size,0,none⟩=some (.int .i64 x.1)∧w'.cell? ⟨w.heap.size,1,none⟩=some (.int .i64 x.2)∧w'.cell? ⟨w.heap.size+1,0,none⟩=some (.int .i64 y.1)∧w'.cell? ⟨w.heap.size+1,1,none⟩=some (.int .i64 y.2)∧Below w.heap.size w w')
  (first | exact ⟨by go_cell,by go_cell,by go_cell,by go_cell,by go_grown⟩ | exact qej ‹_› hB | assumption) (first | (go_at_call 46;(first | (with_reducible refine (hof _).mono ?_) | (with_reducible refine (hof2 _).mono ?_));rintro e w1 ⟨rfl,hB⟩) | (go_at_call 47;refine (hab _).mono ?_;rintro e w1 ⟨rfl,hB⟩))
 all_goals
  go_wp2
  rename_i hH
  go_ret
  exact ⟨rfl,hH.2.2.2.2⟩
theorem held4 {B:Nat} {w W w1:World} {p0 p1 p2 p3:Addr} {u v x y:Value} (hb:B≤w.heap.size) (h:W.cell? p0=some u∧W.cell? p1=some v∧W.cell? p2=some x∧W.cell? p3=some y∧Below B w W) (hB:Below W.heap.size W w1) :
 w1.cell? p0=some u∧w1.cell? p1=some v∧w1.cell? p2=some x∧w1.cell? p3=some y∧Below B w w1 :=
 ⟨qb _ hB h.1,qb _ hB h.2.1,qb _ hB h.2.2.1,qb _ hB h.2.2.2.1,Below.call h.2.2.2.2 hB hb⟩
def zK (l:List (Int×Int)):Nat→Nat
 | 0=>0
 | k+1=>if Ye (l.getD k (0,1)) (l.getD (zK l k) (0,1)) then k else zK l k
theorem Yx (l:List (Int×Int)):∀k,1≤k→zK l k < k
 | 0,h=>by omega
 | k+1,_=>by
   simp only [zK]
   split
   ·omega
   ·rcases Nat.eq_zero_or_pos k with rfl | h
    ·simp [zK]
    ·have:=Yx l k h;omega
theorem XV {l:List (Int×Int)} {k:Nat} {x:Int×Int} (h:l[k]? = some x):l.getD k (0,1)=x:=by rw [List.getD_eq_getElem?_getD,h];rfl
set_option maxHeartbeats 2000000 in
theorem JN (l:List (Int×Int)) (b o c:Nat) (hl1:1≤l.length) (hlen:l.length≤20) (ht:∀x∈l,yj x) (w:World) (hP:qL w b o l) :
 Calls qf 44 #[.slice (some ⟨b,o,none⟩) l.length c,.func (.func 45) #[] #[]] w fun e w'=>e=.returned (.int .i64 (zK l l.length))∧Below w.heap.size w w':=by
 have HP:=Lib.hid hP
 have HT:=Lib.hid ht
 have HS:Hid (∀k x y,l[k]? = some x→l[zK l k]? = some y→zK l (k+1)=if Ye x y then k else zK l k):=Lib.hid fun k x y hx hy=>by
  simp only [zK];rw [XV hx,XV hy]
 have HL:=Lib.hid (Yx l)
 have HZ:Hid (zK l 0=0):=Lib.hid rfl
 obtain ⟨N,hN⟩:∃N,N=zK l:=⟨_,rfl⟩
 rw [← hN] at HS HL HZ ⊢
 clear hP ht hN
 go_enter s44,ntmps44
 go_wp2
 go_loopw [5,10] (fun x i wr=>∃k:Nat,i=.int .i64 k∧k≤l.length∧x=.int .i64 (N k)∧Below w.heap.size w wr) (fun _ i _=>l.length - (intOf i).toNat)
 case atStart=>exact ⟨0,rfl,by omega,by rw [HZ.out];rfl,by go_grown⟩
 case round =>
  obtain ⟨k,rfl,hk,rfl,hBr⟩:=hrel
  by_cases hlt:k < l.length
  ·obtain ⟨x,hx⟩:∃x,l[k]? = some x:=⟨l[k],by simp [hlt]⟩
   have hj:N k < l.length:=by
    rcases Nat.eq_zero_or_pos k with rfl | h
    ·rw [HZ.out];omega
    ·have:=HL.out k h;omega
   obtain ⟨y,hy⟩:∃y,l[N k]? = some y:=⟨l[N k],by simp [hj]⟩
   obtain ⟨c0,c1⟩:=HP.out k x hx
   obtain ⟨d0,d1⟩:=HP.out (N k) y hy
   have c0:=qb _ hBr c0
   have c1:=qb _ hBr c1
   have d0:=qb _ hBr d0
   have d1:=qb _ hBr d1
   have hbu:=fun W=>qdw x y (HT.out x (List.mem_of_getElem? hx)) (HT.out y (List.mem_of_getElem? hy)) W
   have hsn:=HS.out k x y hx hy
   simp only [fv] at hbu
   generalize N k=j at *
   obtain ⟨r,hr⟩:∃r,Ye x y=r:=⟨_,rfl⟩
   rw [hr] at hsn
   simp only [hr] at hbu
   have HN:=Lib.hid hsn
   clear hsn hr hx hy
   have hj0:(0:Int)≤(j:Int):=Int.natCast_nonneg j
   have hj1:(j:Int) < (l.length:Int):=by omega
   have hlb:=lt_of_cell c0
   have hsz:=hBr.size
   go_wp2
   go_region_held3 (fun w'=>w'.cell? ⟨wr.heap.size,0,none⟩=some (.int .i64 x.1)∧w'.cell? ⟨wr.heap.size,1,none⟩=some (.int .i64 x.2)∧w'.cell? ⟨b,o+j * 2,none⟩=some (.int .i64 y.1)∧w'.cell? ⟨b,o+j * 2+1,none⟩=some (.int .i64 y.2)∧Below w.heap.size w w')
    (first | exact ⟨by go_cell,by go_cell,by go_cell,by go_cell,by go_grown⟩ | exact held4 (Nat.le_refl _) ‹_› hB | assumption) (first | (go_at_call 45;refine (hbu _).mono ?_;rintro e w1 ⟨rfl,hB⟩))
   rename_i hH
   have hB5:=hH.2.2.2.2
   clear hH
   cases r with
   | true =>
     go_wp2
     go_roundw
     case rel=>exact ⟨k+1,rfl,by omega,by rw [HN.out];rfl,hB5⟩
     case measure=>simp [intOf];omega
   | false =>
     go_wp2
     go_roundw
     case rel=>exact ⟨k+1,rfl,by omega,by rw [HN.out];rfl,hB5⟩
     case measure=>simp [intOf];omega
  ·obtain rfl:k=l.length:=by omega
   go_wp2
   go_ret
   exact ⟨rfl,hBr⟩
structure Opened (w:World) (v0 v1 v2 v3 v4 x0 x1 x2 x3 x4:Value) (q:Nat) (W:World):Prop where
 arg:W.cell? ⟨w.heap.size,0,none⟩=some v0∧W.cell? ⟨w.heap.size,1,none⟩=some v1∧W.cell? ⟨w.heap.size,2,none⟩=some v2∧W.cell? ⟨w.heap.size,3,none⟩=some v3∧W.cell? ⟨w.heap.size,4,none⟩=some v4
 x:W.cell? ⟨q,0,none⟩=some x0∧W.cell? ⟨q,1,none⟩=some x1∧W.cell? ⟨q,2,none⟩=some x2∧W.cell? ⟨q,3,none⟩=some x3∧W.cell? ⟨q,4,none⟩=some x4
 fz:W.frozen? ⟨q,0,none⟩=false∧W.frozen? ⟨q,1,none⟩=false∧W.frozen? ⟨q,2,none⟩=false∧W.frozen? ⟨q,3,none⟩=false∧W.frozen? ⟨q,4,none⟩=false
 hi:w.heap.size < q
def QI (B:Bk) (n:Int):Value:=if checkN B=0 then (if btw n 0 (B.gs.length - 1) then .tuple #[.int .i64 (match B.gs[n.toNat]? with | some g=>zK g.traffic g.traffic.length | none=>0),.int .i64 0] else .tuple #[.int .i64 0,.int .i64 6]) else .tuple #[.int .i64 0,.int .i64 (checkN B)]
theorem Qg (B:Bk) (t:Bool):∃(n0 n1 n2 n3:Int) (xa:Option Addr) (xn xc:Nat) (a:Int),Zm B t=.tuple #[.agg #[.int .i64 n0,.int .i64 n1,.int .i64 n2,.int .i64 n3,.slice xa xn xc],.int .i64 a] ∧
 ((a=0∧checkN B=0∧t=true∧n0=B.lim.1∧n1=B.lim.2∧n2=B.growth∧n3=B.hours∧xa=B.ga∧xn=B.gs.length∧xc=B.gc)∨((a≠0∧a=if checkN B=0 then 6 else checkN B)∧(checkN B=0→t=false))):=by
 unfold Zm
 by_cases h:checkN B=0
 ·cases t with
  | true=>exact ⟨_,_,_,_,_,_,_,0,by rw [if_pos h];rfl,.inl ⟨rfl,h,rfl,rfl,rfl,rfl,rfl,rfl,rfl,rfl⟩⟩
  | false=>exact ⟨_,_,_,_,_,_,_,6,by rw [if_pos h];rfl,.inr ⟨⟨by decide,by rw [if_pos h]⟩,fun _=>rfl⟩⟩
 ·exact ⟨_,_,_,_,_,_,_,checkN B,by rw [if_neg h];rfl,.inr ⟨⟨h,by rw [if_neg h]⟩,fun e=>absurd e h⟩⟩
set_option maxHeartbeats 8000000 in
set_option maxRecDepth 100000 in
theorem qbC (B:Bk) (n:Int) (w:World) (h:BookAt w B) (hG:Globs w):Calls qf 8 #[bv B,.int .i64 n] w fun e w'=>e=.returned (QI B n)∧Below w.heap.size w w':=by
 have his:=fun W=>qaX B n W h.small.1
 have hop:=fun W (hB:Below w.heap.size w W)=>yw B (btw n 0 (B.gs.length - 1)) W (h.keep hB) (hG.keep hB)
 obtain ⟨n0,n1,n2,n3,xa,xn,xc,a,hv,hcase⟩:=Qg B (btw n 0 (B.gs.length - 1))
 simp only [hv] at hop
 have HH:=Lib.hid h
 have HC:=Lib.hid hcase
 have hRa:a≠0→QI B n=.tuple #[.int .i64 0,.int .i64 a]:=fun h0=>by
  rcases hcase with ⟨e,_⟩ | ⟨⟨_,ha⟩,hf⟩
  ·exact absurd e h0
  ·unfold QI
   by_cases hz:checkN B=0
   ·rw [if_pos hz] at ha ⊢;rw [hf hz,ha];rfl
   ·rw [if_neg hz] at ha ⊢;rw [ha]
 have hR0:a=0→checkN B=0∧btw n 0 (B.gs.length - 1)=true∧xa=B.ga∧xn=B.gs.length∧xc=B.gc:=fun h0=>by
  rcases hcase with ⟨_,h1,h2,_,_,_,_,h3,h4,h5⟩ | ⟨⟨h1,_⟩,_⟩
  ·exact ⟨h1,h2,h3,h4,h5⟩
  ·exact absurd h0 h1
 have hRz:∀g,B.gs[n.toNat]? = some g→a=0→QI B n=.tuple #[.int .i64 (zK g.traffic g.traffic.length),.int .i64 0]:=fun g hg h0=>by
  obtain ⟨h1,h2,_⟩:=hR0 h0
  unfold QI;rw [if_pos h1,h2,hg];rfl
 obtain ⟨R,hR⟩:∃R,QI B n=R:=⟨_,rfl⟩
 rw [hR] at hRa hRz ⊢
 have HA:=Lib.hid hRa
 have HZ:=Lib.hid hRz
 have H0:=Lib.hid hR0
 generalize btw n 0 (B.gs.length - 1)=t at his hop
 clear h hG hv hcase hR hRa hRz hR0
 obtain ⟨lim,gr,hr,gs,ga,gc⟩:=B
 simp only [bv] at *
 go_enter s8,ntmps8
 go_upto_region 1 with fail
 go_cut [6,7] (fun p al wx=>∃q:Nat,p=.pointer (some ⟨q,0,none⟩)∧al=.int .i64 a∧Below w.heap.size w wx∧Opened w (.int .i64 lim.1) (.int .i64 lim.2) (.int .i64 gr) (.int .i64 hr) (.slice ga gs.length gc) (.int .i64 n0) (.int .i64 n1) (.int .i64 n2) (.int .i64 n3) (.slice xa xn xc) q wx)
 case rest =>
  obtain ⟨q,rfl,rfl,hBc,hO⟩:=hcut
  by_cases hz:a=0
  ·have h0:=H0.out hz
   subst hz
   obtain ⟨hz,ht,rfl,rfl,rfl⟩:=h0
   have hV:=qI hz
   have hin:=xh.1 ht
   obtain ⟨k,rfl⟩:=Int.eq_ofNat_of_zero_le hin.1
   have hk:k < gs.length:=by have:=hin.2;omega
   obtain ⟨g,hg⟩:∃g,gs[k]? = some g:=⟨gs[k],by simp [hk]⟩
   have hm:=List.mem_of_getElem? hg
   have hRR:=HZ.out g (by rw [Int.toNat_natCast];exact hg) rfl
   have hGG:=hV.grp g hm
   obtain ⟨b,o,hga,hcs⟩:=HH.out.row (by simp only;omega)
   simp only at hga
   subst hga
   obtain ⟨c0,c1,c2⟩:=hcs k g hg
   have hl1:1≤g.traffic.length:=by have:=hGG.len;have:=hV.num.2.2.1;omega
   obtain ⟨tb,t0,hta,hpa⟩:=HH.out.traf g hm hl1
   rw [hta] at c2
   have c2:=qb _ hBc c2
   have hgr:=JN g.traffic tb t0 g.tc hl1 (HH.out.small.2 g hm).1 hGG.traf wc (hpa.keep hBc)
   obtain ⟨d0,d1,d2,d3,d4⟩:=hO.arg
   have HRR:=Lib.hid hRR
   generalize zK g.traffic g.traffic.length=r at *
   clear hRR hGG hV ht hz hin hpa hcs hg hm
   have hlb:=lt_of_cell c2
   go_wp2_with (go_at_call 44;(with_reducible refine hgr.mono ?_);rintro e w1 ⟨rfl,hB1⟩)
   go_ret2
   exact ⟨by rw [HRR.out];rfl,bcl hBc hB1⟩
  ·have hb:(a != 0)=true:=bne_iff_ne.2 hz
   have HRR:=Lib.hid (HA.out hz)
   clear hz
   go_wp2
   go_ret2
   exact ⟨by rw [HRR.out];rfl,hBc⟩
 case first =>
  go_region_with (first | (go_at_call 43;refine (his _).mono ?_;rintro e w1 ⟨rfl,hB1⟩;have hBw:=bcl (w:=w) (by go_grown) hB1;obtain ⟨hc,hg⟩:=qx hB1;have hz:=hB1.size;(try simp at hz);have hz2:w.heap.size < w1.heap.size:=(by omega);(try have hz5:w.heap.size+1 < w1.heap.size:=(by omega))) | (go_at_call 42;refine (hop _ (by go_grown)).mono ?_;rintro e w2 ⟨rfl,hB2⟩;have hBx:=bcl (w:=w) (by go_grown) hB2;obtain ⟨hc2,hg2⟩:=qx hB2;have hz3:=hB2.size;(try simp at hz3);have hz4:w.heap.size < w2.heap.size:=(by omega)))
  all_goals
   go_wp2_with fail
   go_meet
   exact ⟨_,rfl,rfl,(by go_grown),⟨⟨by go_cell,by go_cell,by go_cell,by go_cell,by go_cell⟩,⟨by go_cell,by go_cell,by go_cell,by go_cell,by go_cell⟩,⟨by go_cell,by go_cell,by go_cell,by go_cell,by go_cell⟩,by first | omega | (simp;done) | (simp;omega)⟩⟩
end Go.Proofs.Tryz
