/-
  Lemmas about the program and the machine (R2 to R5), upon which the last text of this claim rests; no condition.
-/
import Derived.Test.YtnpjncjnmpfgpaaGreatDoorG07
set_option linter.unusedSimpArgs false
set_option linter.unusedVariables false
namespace Go.Proofs.Tryz
open Go Go.Load Go.RowKit
theorem qfk (a m:Nat) (hm:m≤20) (hb:∀i,i≤m→a ^ i < 4611686018427387904) (w:World):Calls qf 132 #[.int .i64 a,.int .i64 m] w fun e w'=>e=.returned (.int .i64 ((a ^ m:Nat):Int))∧w'=w:=(qag a m hm hb w).mono fun _ _ ⟨h1,h2⟩=>⟨h1,h2.symm⟩
theorem max_pos (n j:Nat) (h:j≤n):max ((n:Int) - j) 1=((max (n - j) 1:Nat):Int):=by omega
set_option maxHeartbeats 2000000 in
set_option maxRecDepth 100000 in
theorem qcr (t b n:Nat) (ht:t≤12) (hb:1≤b∧b≤4) (hn:n≤7) (w:World):Calls qf 122 #[fv ((t:Int),(b:Int)),.int .i64 n] w fun e w'=>e=.returned (fv (Qz t b n))∧Below w.heap.size w w':=by
 obtain ⟨r1,r2,r3⟩:=qfr ht hb hn
 have hpn:=fun W=>qag t n (by omega) (fun i hi=>by have:=(r3 (n - i) (by omega)).2.1;rw [show n - (n - i)=i by omega] at this;omega) W
 have hpt:=fun j (hj:j≤n) W=>qfk t (n - j) (by omega) (fun i hi=>by have:=(r3 (n - i) (by omega)).2.1;rw [show n - (n - i)=i by omega] at this;omega) W
 have hpb:=fun j (hj:j≤n) W=>qfk b j (by omega) (fun i hi=>by have:=(r3 i (by omega)).2.2.1;omega) W
 have hre:=fun W=>qaC (t ^ n) (qdt t b n (n+1)) W (by have:=(r3 0 (by omega)).2.1;rw [Nat.sub_zero] at this;omega) ⟨r2,by have:=(r3 (n+1) (by omega)).2.2.2;omega⟩
 rw [r1] at hre
 have HT:=Lib.hid hpt
 have HB:=Lib.hid hpb
 have H3:=Lib.hid r3
 clear hpt hpb r1 r2 r3
 generalize Qz t b n=q at *
 obtain ⟨q1,q2⟩:=q
 simp only [fv] at *
 go_enter s122,ntmps122
 go_wp2
 obtain ⟨W,hW⟩:∃W,(w.alloc (Obj.cells #[.int .i64 t,.int .i64 b] 23)).alloc (Obj.cells #[.int .i64 0,.int .i64 0] 23)=W:=⟨_,rfl⟩
 have k0:W.cell? ⟨w.heap.size,0,none⟩=some (.int .i64 t):=by subst hW;go_cell
 have k1:W.cell? ⟨w.heap.size,1,none⟩=some (.int .i64 b):=by subst hW;go_cell
 have c0:W.cell? ⟨w.heap.size+1,0,none⟩=some (.int .i64 0):=by subst hW;go_cell
 have c1:W.cell? ⟨w.heap.size+1,1,none⟩=some (.int .i64 0):=by subst hW;go_cell
 have f0:W.frozen? ⟨w.heap.size+1,0,none⟩=false:=by subst hW;go_cell
 have f1:W.frozen? ⟨w.heap.size+1,1,none⟩=false:=by subst hW;go_cell
 have hBW:Below w.heap.size w W:=by subst hW;go_grown
 rw [hW]
 clear hW
 go_loopw [5,6,7] (fun sv fv kv wr=>∃(j:Nat) (s f kk:Int),j≤n+1∧sv=.int .i64 s∧fv=.int .i64 f∧kv=.int .i64 kk∧Hid (s=qdt t b n j∧f=XP n j∧kk=(n:Int) - j)∧Below W.heap.size W wr) (fun _ _ kv _=>(intOf kv+1).toNat)
 case atStart=>exact ⟨0,0,1,n,by omega,rfl,rfl,rfl,Lib.hid ⟨rfl,rfl,by omega⟩,Below.refl _ _⟩
 case round =>
  obtain ⟨j,s,f,kk,hj,rfl,rfl,rfl,HV,hBr⟩:=hrel
  have k0:=qb _ hBr k0
  have k1:=qb _ hBr k1
  by_cases hlt:j≤n
  ·have hpt:=fun W=>HT.out j hlt W
   have hpb:=fun W=>HB.out j hlt W
   obtain ⟨v1,v2,v3⟩:=HV.out
   have ek:((n - j:Nat):Int)=kk:=by omega
   obtain ⟨g1,g2,g3,g4⟩:=H3.out j hj
   have hS:s+f * ((t ^ (n - j):Nat):Int) * ((b ^ j:Nat):Int)=((qdt t b n (j+1):Nat):Int):=by
    rw [v1,v2,show qdt t b n (j+1)=qdt t b n j+XP n j * t ^ (n - j) * b ^ j from rfl,Int.natCast_add,Int.natCast_mul,Int.natCast_mul]
   have hF:f * max kk 1=((XP n (j+1):Nat):Int):=by
    rw [v2,v3,max_pos n j hlt,show XP n (j+1)=XP n j * max (n - j) 1 from rfl,Int.natCast_mul]
   obtain ⟨g5,_,_,g6⟩:=H3.out (j+1) (by omega)
   rw [ek] at hpt
   have hk0:0≤kk:=by omega
   have hf0:0≤f:=by omega
   have hf1:f≤5040:=by omega
   have hs0:0≤s:=by omega
   have hs1:s≤4000000000000000:=by omega
   have e1:(n:Int) - kk=(j:Int):=by omega
   have hk7:kk≤7:=by omega
   generalize t ^ (n - j)=P at *
   generalize b ^ j=B at *
   have m1:0≤f * (P:Int):=Int.mul_nonneg hf0 (by omega)
   have m2:f * (P:Int)≤5040 * 35831808:=Int.mul_le_mul hf1 (by omega) (by omega) (by omega)
   have m3:0≤f * (P:Int) * (B:Int):=Int.mul_nonneg m1 (by omega)
   have m4:f * (P:Int) * (B:Int)≤5040 * 35831808 * 65536:=Int.mul_le_mul m2 (by omega) (by omega) (by omega)
   have m5:0≤max kk 1∧max kk 1≤7:=by omega
   have m6:f * max kk 1≤5040 * 7:=Int.mul_le_mul hf1 m5.2 m5.1 (by omega)
   have m7:0≤f * max kk 1:=Int.mul_nonneg hf0 m5.1
   have HS:=Lib.hid hS
   have HF:=Lib.hid hF
   have HK:=Lib.hid v3
   clear v1 v2 v3 ek g1 g2 g3 g4 g5 g6 hS hF
   have w1:IntKind.i64.wrap ((n:Int) - kk)=(j:Int):=by rw [e1];exact IntWalk.i64_in _ (by omega)
   have w2:IntKind.i64.wrap (f * (P:Int))=f * P:=IntWalk.i64_in _ (by omega)
   have w3:IntKind.i64.wrap (f * (P:Int) * (B:Int))=f * P * B:=IntWalk.i64_in _ (by omega)
   have w4:IntKind.i64.wrap (s+f * (P:Int) * (B:Int))=s+f * P * B:=IntWalk.i64_in _ (by omega)
   have HX:Hid (RowKit.wrap64 (f * if kk < 1 then 1 else kk)=f * max kk 1):=Lib.hid (by
    rw [show (if kk < 1 then 1 else kk)=max kk 1 by split <;> omega]
    exact IntWalk.wrap64_in _ (by omega))
   clear e1
   go_wp2
   go_quiet ((go_at_call 132;(first | (with_reducible exact Calls.quiet_of_same (hpt _)) | (with_reducible exact Calls.quiet_of_same (hpb _)))))
   clear w1 w2 w3 w4
   go_wp2
   go_roundw
   case rel=>exact ⟨j+1,_,_,kk - 1,by omega,rfl,rfl,rfl,Lib.hid ⟨HS.out,HX.out.trans HF.out,by have:=HK.out;omega⟩,below_drewN hBr _⟩
   case measure=>simp [intOf];omega
  ·obtain rfl:j=n+1:=by omega
   obtain ⟨v1,v2,v3⟩:=HV.out
   have hk0:kk < 0:=by omega
   rw [← v1] at hre
   clear v1 v2 v3 HV HT HB H3
   generalize t ^ n=PP at *
   go_wp2_with (first | (go_at_call 132;(with_reducible refine (hpn _).mono ?_);rintro e w1 ⟨rfl,rfl⟩) | (go_at_call 123;(with_reducible refine (hre _).mono ?_);rintro e w2 ⟨rfl,hB2⟩;have hB3:=bcl hBr hB2;have s0:=qb _ hB3 c0;have s1:=qb _ hB3 c1;have q0:=qg _ hB3 c0 f0;have q1':=qg _ hB3 c1 f1))
   refine yU results122 zl qW rfl s0 s1 ⟨rfl,?_⟩
   exact ((bcl hBW hB3).setCell (by simp) _).setCell (by simp) _
set_option maxHeartbeats 2000000 in
set_option maxRecDepth 100000 in
theorem qcv (t b n:Nat) (l:Int×Int) (ht:t≤12) (hb:1≤b∧b≤4) (hn:n≤7) (hl:Lim l) (w:World):Calls qf 97 #[fv ((t:Int),(b:Int)),.int .i64 n,fv l] w fun e w'=>e=.returned (.bool (borne ((t:Int),(b:Int)) n l))∧Below w.heap.size w w':=by
 have hlo:=fun W=>qcr t b n ht hb hn W
 obtain ⟨_,hk⟩:=qcS ht hb hn
 have hle:=fun W=>Less_lim (r:=above (Qz t b n) l) rfl hk hl W
 rw [borne_eq (by have:=hl.1.1;omega)]
 generalize above (Qz t b n) l=r at *
 generalize Qz t b n=q at *
 clear hk hl
 obtain ⟨q1,q2⟩:=q
 obtain ⟨l1,l2⟩:=l
 simp only [fv] at *
 go_enter s97,ntmps97
 go_wp2_with fail
 go_region_held3 (fun w'=>w'.cell? ⟨w.heap.size,0,none⟩=some (.int .i64 t)∧w'.cell? ⟨w.heap.size,1,none⟩=some (.int .i64 b)∧w'.cell? ⟨w.heap.size+1,0,none⟩=some (.int .i64 l1)∧w'.cell? ⟨w.heap.size+1,1,none⟩=some (.int .i64 l2)∧Below w.heap.size w w')
  (first | exact ⟨by go_cell,by go_cell,by go_cell,by go_cell,by go_grown⟩ | exact qej ‹_› hB | assumption) (first | (go_at_call 122;refine (hlo _).mono ?_;rintro e w1 ⟨rfl,hB⟩) | (go_at_call 49;refine (hle _).mono ?_;rintro e w1 ⟨rfl,hB⟩))
 all_goals
  go_wp2
  rename_i hH
  go_ret
  exact ⟨rfl,hH.2.2.2.2⟩
end Go.Proofs.Tryz
namespace Go.Proofs.Tryz
open Go Go.Load Go.RowKit Go.Maps
def BumpP (w:World) (B:Bk) (h q mc hc m g gc:Nat) (tb:Nat→Nat) (l:List Grp) (W:World) (e:Ending) (W1:World):Prop :=
 e=.returned (.int .i64 (zb { B with gs:=l,ga:=some ⟨g,0,none⟩,gc:=gc } h l.length).1)∧SpSt w B h q mc hc m g gc tb (Qv l (zb { B with gs:=l,ga:=some ⟨g,0,none⟩,gc:=gc } h l.length).1) W1∧∃V,W.grownBy V (some m)∧V.grownBy W1 (some g)
theorem grown_at {W:World} {g j:Nat} {v:Value}:W.grownBy (W.setCell ⟨g,j,none⟩ v) (some g) :=
 ⟨rfl,rfl,rfl,by simp,fun k _ hr=>Below.heap_setCell _ _ _ _ (by simpa using hr)⟩
set_option maxHeartbeats 4000000 in
set_option maxRecDepth 100000 in
theorem qbt (w:World) (B:Bk) (h q mc hc m g gc:Nat) (tb:Nat→Nat) (l:List Grp) (W:World) (s:SpSt w B h q mc hc m g gc tb l W) (hV:Valid { B with gs:=l,ga:=some ⟨g,0,none⟩,gc:=gc }) (hG:Globs W) (hh:(h:Int) < B.hours) :
 Calls qf 81 #[.pointer (some ⟨q,0,none⟩),.pointer (some ⟨mc,0,none⟩),.pointer (some ⟨hc,0,none⟩)] W (BumpP w B h q mc hc m g gc tb l W):=by
 have hbe:=qbO { B with gs:=l,ga:=some ⟨g,0,none⟩,gc:=gc } m h W s.book hV hG s.map hh
 have hbs:=Za (B:={ B with gs:=l,ga:=some ⟨g,0,none⟩,gc:=gc }) (h:=h) l.length (Nat.le_refl _)
 have HT:=Lib.hid fun (i:Nat) (x:Grp) (hx:l[i]? = some x)=>hV.grp x (List.mem_of_getElem? hx)
 unfold BumpP
 simp only at hbe
 generalize zb { B with gs:=l,ga:=some ⟨g,0,none⟩,gc:=gc } h l.length=r at *
 have hq:=s.mp
 have hp:=s.hp
 have hm:=s.map.lt
 obtain ⟨⟨e0,e1,e2,e3,e4⟩,⟨k0,k1,k2,k3,k4⟩⟩:=id s.box
 have h1:=s.own.lo
 have h2:=s.gm
 have h4:=s.hq
 have h5:=s.mm
 have hqn:q≠m:=by omega
 have hS:=Lib.hid s
 clear hV hG hh s
 obtain ⟨lim,gr,hr,gs,ga,gc0⟩:=B
 simp only [bestV,fv,bv] at *
 by_cases hb:r.1=-1
 ·rw [hb] at hbe ⊢
  clear hbs
  go_enter s81,ntmps81
  go_wp2_with (go_at_call 76;refine hbe.mono ?_;rintro e w1 ⟨rfl,hO⟩)
  go_ret
  refine ⟨rfl,?_,w1.alloc (.cells #[.int .i64 r.2.1,.int .i64 r.2.2] 72),?_,?_⟩
  ·have e:Qv l (-1)=l:=if_pos rfl
   rw [e]
   exact (hS.out.one hO).keep ((Below.refl _ w1).alloc (Nat.le_refl _) _)
  ·exact zL hO.2 (zh ((Below.refl _ w1).alloc (Nat.le_refl _) _))
  ·exact zh (Below.refl _ _)
 ·obtain ⟨i,x,hi,hx,hx7⟩:=hbs.resolve_left hb
  have hgi:=HT.out i x hx
  rw [hi] at hbe ⊢
  have hbn:((i:Int) != -1)=true:=bne_iff_ne.2 (by omega)
  have hil:i < l.length:=(List.getElem?_eq_some_iff.1 hx).1
  have hi0:(0:Int)≤(i:Int):=Int.natCast_nonneg i
  have hi1:(i:Int) < (l.length:Int):=by omega
  have hl20:=hS.out.small.1
  have ht0:=hgi.tr0
  have ht7:=hgi.tr7
  have HX:=Lib.hid hx
  clear hbs hb hx hgi hx7
  go_enter s81,ntmps81
  go_wp2_with (go_at_call 76;refine hbe.mono ?_;rintro e w1 ⟨rfl,hO⟩;have S1:=hS.out.one hO;obtain ⟨⟨e0,e1,e2,e3,e4⟩,_⟩:=id S1.box;obtain ⟨x0,x1⟩:=S1.own.row _ _ (zq l i x HX.out).2.1;have hg1:=S1.own.hi;have hq1:q < w1.heap.size:=lt_of_cell e0;have S1:=Lib.hid S1)
  go_ret
  have e:Qv l (i:Int)=l.set i { x with trunks:=x.trunks+1 }:=by
   unfold Qv
   rw [if_neg (by omega),Int.toNat_natCast,HX.out]
  refine ⟨rfl,?_,w1,hO.2,?_⟩
  ·rw [e]
   exact (S1.out.trunk HX.out _).keep ((Below.refl _ _).alloc (Nat.le_refl _) _)
  ·exact zL grown_at (zh ((Below.refl _ _).alloc (Nat.le_refl _) _))
theorem qbM {B B':Bk} {h:Nat} (e:B'.gs=B.gs):∀k,zb B' h k=zb B h k
 | 0=>rfl
 | k+1=>by simp only [zb,e,qbM e k]
theorem Yi {B B':Bk} {h:Nat} (e:B'.gs=B.gs.map blank):∀k,zb B' h k=zb B h k
 | 0=>rfl
 | k+1=>by
   simp only [zb,e,Yi e k,List.getElem?_map]
   cases hk:B.gs[k]? with
   | none=>rfl
   | some g=>rfl
def QZ (h:Nat) (l:List Grp):Int:=(zb ⟨(0,0),0,0,l,none,0⟩ h l.length).1
theorem bestL_eq (B:Bk) (h:Nat):(zb B h B.gs.length).1=QZ h B.gs:=by
 unfold QZ
 rw [qbM (B:=B) (B':=⟨(0,0),0,0,B.gs,none,0⟩) rfl]
def zy (h:Nat):Nat→List Grp→List Int
 | 0,_=>[]
 | n+1,l=>if QZ h l=-1 then [] else QZ h l :: zy h n (Qv l (QZ h l))
theorem qaF (h:Nat) (l:List Grp):QZ h (l.map blank)=QZ h l:=by
 unfold QZ
 rw [List.length_map,Yi (B:=⟨(0,0),0,0,l,none,0⟩) rfl]
theorem qaH (l:List Grp) (b:Int):Qv (l.map blank) b=(Qv l b).map blank:=by
 unfold Qv
 by_cases e:b=-1
 ·rw [if_pos e,if_pos e]
 ·rw [if_neg e,if_neg e,List.getElem?_map]
  cases h:l[b.toNat]? with
  | none=>rfl
  | some x=>simp [blank,List.map_set]
theorem jl (h:Nat):∀(n:Nat) (l:List Grp),zy h n (l.map blank)=zy h n l
 | 0,_=>rfl
 | n+1,l=>by simp only [zy,qaF,qaH,jl h n]
theorem qam {h n:Nat} {l l':List Grp} (hs:zI l l'):zy h n l'=zy h n l:=by
 rw [← jl h n l',Zr hs,jl]
def qcF (n:Nat) (L:List Int):List Int:=L ++ List.replicate (n - L.length) (-1)
theorem Valid.bump {B:Bk} (hV:Valid B) {b:Int} (hb:b=(zb B 0 0).1∨b=-1∨∃(i:Nat) (x:Grp),b=i∧B.gs[i]? = some x∧x.trunks≠7):Valid { B with gs:=Qv B.gs b }:=by
 have key:∀(i:Nat) (x:Grp),B.gs[i]? = some x→x.trunks≠7→Valid { B with gs:=B.gs.set i { x with trunks:=x.trunks+1 } }:=fun i x hx h7=>by
  refine ⟨hV.num,by simpa using hV.len1,by simpa using hV.len4,fun y hy=>?_⟩
  rcases List.mem_or_eq_of_mem_set hy with hy | rfl
  ·exact hV.grp y hy
  ·have hg:=hV.grp x (List.mem_of_getElem? hx)
   have h1:=hg.tr0
   have h2:=hg.tr7
   exact ⟨hg.name,by show (0:Int)≤x.trunks+1;omega,by show x.trunks+1≤(7:Int);omega,hg.len,hg.traf⟩
 have e1:Qv B.gs (-1)=B.gs:=if_pos rfl
 rcases hb with rfl | rfl | ⟨i,x,rfl,hx,h7⟩
 ·show Valid { B with gs:=Qv B.gs (-1) }
  rw [e1];exact hV
 ·rw [e1];exact hV
 ·have e:Qv B.gs (i:Int)=B.gs.set i { x with trunks:=x.trunks+1 }:=by
   unfold Qv
   rw [if_neg (by omega),Int.toNat_natCast,hx]
  rw [e];exact key i x hx h7
theorem Valid.move {B:Bk} {l:List Grp} (hV:Valid B) (hs:zI B.gs l) (ga:Option Addr) (gc:Nat):Valid { B with gs:=l,ga:=ga,gc:=gc }:=by
 refine ⟨hV.num,by show 1≤l.length;rw [hs.1];exact hV.len1,by show l.length≤4;rw [hs.1];exact hV.len4,fun y hy=>?_⟩
 obtain ⟨i,hi,rfl⟩:=List.getElem_of_mem hy
 obtain ⟨x,hx⟩:∃x,B.gs[i]? = some x:=⟨B.gs[i]'(by rw [← hs.1];exact hi),by simp⟩
 obtain ⟨a,b,c⟩:=hs.2 i x l[i] hx (by simp)
 have hg:=hV.grp x (List.mem_of_getElem? hx)
 exact ⟨by rw [a];exact hg.name,by rw [b];exact hg.tr0,by rw [b];exact hg.tr7,by rw [c];exact hg.len,by rw [c];exact hg.traf⟩
end Go.Proofs.Tryz
namespace Go.Proofs.Tryz
open Go Go.Load Go.RowKit
theorem traf_nat {x:Int×Int} (h:yj x):∃t b:Nat,x=((t:Int),(b:Int))∧t≤12∧1≤b∧b≤4:=by
 obtain ⟨x1,x2⟩:=x
 obtain ⟨⟨a,b⟩,c,d⟩:=h
 simp only at a b c d
 exact ⟨x1.toNat,x2.toNat,by rw [Int.toNat_of_nonneg a,Int.toNat_of_nonneg (by omega)],by omega,by omega,by omega⟩
theorem qdE (T:Nat) (x l:Int×Int) (hx:yj x) (hT:T≤7) (hl:Lim l) (w:World):Calls qf 97 #[fv x,.int .i64 T,fv l] w fun e w'=>e=.returned (.bool (borne x T l))∧Below w.heap.size w w':=by
 obtain ⟨t,b,rfl,ht,hb⟩:=traf_nat hx
 exact qcv t b T l ht hb hT hl w
end Go.Proofs.Tryz
