/-
  Lemmas about the program and the machine (R0 to B39), upon which the last text of this claim rests; no condition.
-/
import Derived.Test.YtnpjncjnmpfgpaaGreatDoorY10
set_option linter.unusedSimpArgs false
set_option linter.unusedVariables false
namespace Go.Proofs.Tryz
open Go Go.Load Go.RowKit
def XX (n:Nat):Nat→Nat
 | 0=>1
 | j+1=>XX n j * max (n - j) 1
def qdJ (t b n:Nat):Nat→Nat
 | 0=>0
 | j+1=>qdJ t b n j+XX n j * t ^ (n - j) * b ^ j
def refB (t b n:Nat):Bool :=
 decide (redN (t ^ n) (qdJ t b n (n+1))=QI t b n) && decide (1≤qdJ t b n (n+1)) &&
 (List.range (n+2)).all fun j=>decide (XX n j≤5040) && decide (t ^ (n - j)≤35831808) && decide (b ^ j≤65536) && decide (qdJ t b n j≤4000000000000000)
theorem ref_all:((List.range 13).all fun t=>(List.range 4).all fun b=>(List.range 8).all fun n=>refB t (b+1) n)=true:=by decide +kernel
theorem qfM {t b n:Nat} (ht:t≤12) (hb:1≤b∧b≤4) (hn:n≤7):redN (t ^ n) (qdJ t b n (n+1))=QI t b n∧1≤qdJ t b n (n+1)∧∀j,j≤n+1→XX n j≤5040∧t ^ (n - j)≤35831808∧b ^ j≤65536∧qdJ t b n j≤4000000000000000:=by
 have h:=ref_all
 rw [List.all_eq_true] at h
 have h:=h t (List.mem_range.2 (by omega))
 rw [List.all_eq_true] at h
 have h:=h (b - 1) (List.mem_range.2 (by omega))
 rw [List.all_eq_true] at h
 have h:=h n (List.mem_range.2 (by omega))
 rw [show b - 1+1=b by omega] at h
 unfold refB at h
 simp only [Bool.and_eq_true,decide_eq_true_eq,List.all_eq_true,List.mem_range] at h
 refine ⟨h.1.1,h.1.2,fun j hj=>?_⟩
 have:=h.2 j (by omega)
 exact ⟨this.1.1.1,this.1.1.2,this.1.2,this.2⟩
theorem qdf {t b n:Nat} (ht:t≤12) (hb:1≤b∧b≤4) (hn:n≤7):fairN (QI t b n)=true∧okS (QI t b n) 8589934592:=by
 have h:=sum_all
 rw [List.all_eq_true] at h
 have h:=h t (List.mem_range.2 (by omega))
 rw [List.all_eq_true] at h
 have h:=h (b - 1) (List.mem_range.2 (by omega))
 rw [List.all_eq_true] at h
 have h:=h n (List.mem_range.2 (by omega))
 rw [show b - 1+1=b by omega] at h
 unfold sumB at h
 simp only [Bool.and_eq_true,decide_eq_true_eq,Bool.not_eq_true'] at h
 exact ⟨h.1.1.1.1.1.1.1.2,h.1.1.1.1.2⟩
theorem Less_lim {l x:Int×Int} {r:Bool} (hr:above x l=r) (hk:okS x 8589934592) (hl:Lim l) (W:World):Calls qf 49 #[fv l,fv x] W fun e w'=>e=.returned (.bool r)∧Below W.heap.size W w':=by
 have h:=hk
 unfold okS at h
 unfold Lim at hl
 exact hr▸Less_any l x W hl.2.1 (by omega) h.1 h.2.2.1 (by omega) (by omega) (by omega) (by omega)
theorem ZR (a b c:Int) (w:World) (h:¬ (b≤a∧a≤c)):Calls qf 51 #[.int .i64 a,.int .i64 b,.int .i64 c] w fun e w'=>e=.returned (.bool false)∧w=w':=by
 by_cases h1:b≤a
 ·have h2:¬ a≤c:=fun h2=>h ⟨h1,h2⟩
  have k1:decide (b≤a)=true:=decide_eq_true h1
  have k2:decide (a≤c)=false:=decide_eq_false h2
  go_enter s51,ntmps51
  go_wp2
  go_ret
  exact ⟨by simp_all,rfl⟩
 ·have k1:decide (b≤a)=false:=decide_eq_false h1
  go_enter s51,ntmps51
  go_wp2
  go_ret
  exact ⟨by simp_all,rfl⟩
theorem ZM (x:Int×Int) (w:World) (h:zT x):Calls qf 55 #[fv x] w fun e w'=>e=.returned (.bool true)∧Below w.heap.size w w':=by
 obtain ⟨h1,h2⟩:=h
 simp only [fv]
 go_enter s55,ntmps55
 go_wp2_with (go_at_call 51;(first | (with_reducible refine (yJ _ _ _ _ h1).mono ?_) | (with_reducible refine (yJ _ _ _ _ h2).mono ?_));rintro e w' ⟨rfl,rfl⟩)
 go_ret
 exact ⟨rfl,by go_grown⟩
theorem YQ (x:Int×Int) (w:World) (h:¬ zT x):Calls qf 55 #[fv x] w fun e w'=>e=.returned (.bool false)∧Below w.heap.size w w':=by
 simp only [fv]
 by_cases h1:0≤x.1∧x.1≤12
 ·have h2:¬ (1≤x.2∧x.2≤4):=fun h2=>h ⟨h1,h2⟩
  go_enter s55,ntmps55
  go_wp2_with (go_at_call 51;(first | (with_reducible refine (yJ _ _ _ _ h1).mono ?_) | (with_reducible refine (ZR _ _ _ _ h2).mono ?_));rintro e w' ⟨rfl,rfl⟩)
  go_ret
  exact ⟨rfl,by go_grown⟩
 ·go_enter s55,ntmps55
  go_wp2_with (go_at_call 51;(with_reducible refine (ZR _ _ _ _ h1).mono ?_);rintro e w' ⟨rfl,rfl⟩)
  go_ret
  exact ⟨rfl,by go_grown⟩
theorem Zw (x:Int×Int) (w:World) (h:Lim x):Calls qf 50 #[fv x] w fun e w'=>e=.returned (.bool true)∧Below w.heap.size w w':=by
 obtain ⟨h1,h2⟩:=h
 simp only [fv]
 go_enter s50,ntmps50
 go_wp2_with (go_at_call 51;(first | (with_reducible refine (yJ _ _ _ _ h1).mono ?_) | (with_reducible refine (yJ _ _ _ _ h2).mono ?_));rintro e w' ⟨rfl,rfl⟩)
 go_ret
 exact ⟨rfl,by go_grown⟩
theorem qfG (x:Int×Int) (w:World) (h:¬ Lim x):Calls qf 50 #[fv x] w fun e w'=>e=.returned (.bool false)∧Below w.heap.size w w':=by
 simp only [fv]
 by_cases h1:1≤x.2∧x.2≤100
 ·have h2:¬ (0≤x.1∧x.1≤x.2):=fun h2=>h ⟨h1,h2⟩
  go_enter s50,ntmps50
  go_wp2_with (go_at_call 51;(first | (with_reducible refine (yJ _ _ _ _ h1).mono ?_) | (with_reducible refine (ZR _ _ _ _ h2).mono ?_));rintro e w' ⟨rfl,rfl⟩)
  go_ret
  exact ⟨rfl,by go_grown⟩
 ·go_enter s50,ntmps50
  go_wp2_with (go_at_call 51;(with_reducible refine (ZR _ _ _ _ h1).mono ?_);rintro e w' ⟨rfl,rfl⟩)
  go_ret
  exact ⟨rfl,by go_grown⟩
theorem YR (a:Int) (w:World) (h:0≤a∧a≤7):Calls qf 54 #[.int .i64 a] w fun e w'=>e=.returned (.bool true)∧w=w':=by
 go_enter s54,ntmps54
 go_wp2_with (go_at_call 51;refine (yJ _ _ _ _ h).mono ?_;rintro e w' ⟨rfl,rfl⟩)
 go_ret
 exact ⟨rfl,rfl⟩
theorem qds (a:Int) (w:World) (h:¬ (0≤a∧a≤7)):Calls qf 54 #[.int .i64 a] w fun e w'=>e=.returned (.bool false)∧w=w':=by
 go_enter s54,ntmps54
 go_wp2_with (go_at_call 51;refine (ZR _ _ _ _ h).mono ?_;rintro e w' ⟨rfl,rfl⟩)
 go_ret
 exact ⟨rfl,rfl⟩
theorem qar (a m:Nat) (hm:m≤20) (hb:∀i,i≤m→a ^ i < 4611686018427387904) (w:World):Calls qf 132 #[.int .i64 a,.int .i64 m] w fun e w'=>e=.returned (.int .i64 ((a ^ m:Nat):Int))∧w=w':=by
 have HB:=Lib.hid hb
 clear hb
 go_enter s132,ntmps132
 go_wp2
 go_loop [5,6] (fun o i=>∃(k:Nat) (p:Int),i=.int .i64 k∧k≤m∧o=.int .i64 p∧Hid (p=((a ^ k:Nat):Int))) (fun _ i=>m - (intOf i).toNat)
 case atStart=>exact ⟨0,1,rfl,by omega,rfl,Lib.hid (by simp)⟩
 case round =>
  obtain ⟨k,p,rfl,hk,rfl,HP⟩:=hrel
  by_cases hlt:k < m
  ·have h1:=HB.out (k+1) (by omega)
   have e:p * a=((a ^ (k+1):Nat):Int):=by rw [HP.out,Nat.pow_succ,Int.natCast_mul]
   have h0:0≤p * (a:Int):=by rw [e];omega
   have h2:p * (a:Int) < 4611686018427387904:=by rw [e];omega
   have HE:=Lib.hid e
   have e1:IntKind.i64.wrap (p * (a:Int))=p * a:=IntWalk.i64_in _ (by omega)
   clear e h1
   go_wp2
   go_round
   case rel=>exact ⟨k+1,_,by go_num,by omega,rfl,HE⟩
   case measure=>simp [intOf];omega
  ·obtain rfl:k=m:=by omega
   go_wp2
   go_ret
   exact ⟨by rw [HP.out,Int.natCast_pow];rfl,rfl⟩
theorem qfD (a m:Nat) (hm:m≤20) (hb:∀i,i≤m→a ^ i < 4611686018427387904) (w:World):Calls qf 132 #[.int .i64 a,.int .i64 m] w fun e w'=>e=.returned (.int .i64 ((a ^ m:Nat):Int))∧w'=w:=(qar a m hm hb w).mono fun _ _ ⟨h1,h2⟩=>⟨h1,h2.symm⟩
theorem max_pos (n j:Nat) (h:j≤n):max ((n:Int) - j) 1=((max (n - j) 1:Nat):Int):=by omega
set_option maxHeartbeats 2000000 in
set_option maxRecDepth 100000 in
theorem qcF (t b n:Nat) (ht:t≤12) (hb:1≤b∧b≤4) (hn:n≤7) (w:World):Calls qf 122 #[fv ((t:Int),(b:Int)),.int .i64 n] w fun e w'=>e=.returned (fv (QI t b n))∧Below w.heap.size w w':=by
 obtain ⟨r1,r2,r3⟩:=qfM ht hb hn
 have hpn:=fun W=>qar t n (by omega) (fun i hi=>by have:=(r3 (n - i) (by omega)).2.1;rw [show n - (n - i)=i by omega] at this;omega) W
 have hpt:=fun j (hj:j≤n) W=>qfD t (n - j) (by omega) (fun i hi=>by have:=(r3 (n - i) (by omega)).2.1;rw [show n - (n - i)=i by omega] at this;omega) W
 have hpb:=fun j (hj:j≤n) W=>qfD b j (by omega) (fun i hi=>by have:=(r3 i (by omega)).2.2.1;omega) W
 have hre:=fun W=>qaK (t ^ n) (qdJ t b n (n+1)) W (by have:=(r3 0 (by omega)).2.1;rw [Nat.sub_zero] at this;omega) ⟨r2,by have:=(r3 (n+1) (by omega)).2.2.2;omega⟩
 rw [r1] at hre
 have HT:=Lib.hid hpt
 have HB:=Lib.hid hpb
 have H3:=Lib.hid r3
 clear hpt hpb r1 r2 r3
 generalize QI t b n=q at *
 obtain ⟨q1,q2⟩:=q
 simp only [fv] at *
 go_enter s122,ntmps122
 go_wp2
 obtain ⟨W,hW⟩:∃W,(w.alloc (Obj.cells #[.int .i64 t,.int .i64 b] 23)).alloc (Obj.cells #[.int .i64 0,.int .i64 0] 23)=W:=⟨_,rfl⟩
 have k0:W.cell? ⟨w.heap.size,0,none⟩=some (.int .i64 t):=by subst hW;go_cell
 have k1:W.cell? ⟨w.heap.size,1,none⟩=some (.int .i64 b):=by subst hW;go_cell
 have c0:W.cell? ⟨w.heap.size+1,0,none⟩=some (.int .i64 0):=by subst hW;go_cell
 have c1:W.cell? ⟨w.heap.size+1,1,none⟩=some (.int .i64 0):=by subst hW;go_cell
 have f0:W.frozen? ⟨w.heap.size+1,0,none⟩=false:=by subst hW;go_cell
 have f1:W.frozen? ⟨w.heap.size+1,1,none⟩=false:=by subst hW;go_cell
 have hBW:Below w.heap.size w W:=by subst hW;go_grown
 rw [hW]
 clear hW
 go_loopw [5,6,7] (fun sv fv kv wr=>∃(j:Nat) (s f kk:Int),j≤n+1∧sv=.int .i64 s∧fv=.int .i64 f∧kv=.int .i64 kk∧Hid (s=qdJ t b n j∧f=XX n j∧kk=(n:Int) - j)∧Below W.heap.size W wr) (fun _ _ kv _=>(intOf kv+1).toNat)
 case atStart=>exact ⟨0,0,1,n,by omega,rfl,rfl,rfl,Lib.hid ⟨rfl,rfl,by omega⟩,Below.refl _ _⟩
 case round =>
  obtain ⟨j,s,f,kk,hj,rfl,rfl,rfl,HV,hBr⟩:=hrel
  have k0:=qb _ hBr k0
  have k1:=qb _ hBr k1
  by_cases hlt:j≤n
  ·have hpt:=fun W=>HT.out j hlt W
   have hpb:=fun W=>HB.out j hlt W
   obtain ⟨v1,v2,v3⟩:=HV.out
   have ek:((n - j:Nat):Int)=kk:=by omega
   obtain ⟨g1,g2,g3,g4⟩:=H3.out j hj
   have hS:s+f * ((t ^ (n - j):Nat):Int) * ((b ^ j:Nat):Int)=((qdJ t b n (j+1):Nat):Int):=by
    rw [v1,v2,show qdJ t b n (j+1)=qdJ t b n j+XX n j * t ^ (n - j) * b ^ j from rfl,Int.natCast_add,Int.natCast_mul,Int.natCast_mul]
   have hF:f * max kk 1=((XX n (j+1):Nat):Int):=by
    rw [v2,v3,max_pos n j hlt,show XX n (j+1)=XX n j * max (n - j) 1 from rfl,Int.natCast_mul]
   obtain ⟨g5,_,_,g6⟩:=H3.out (j+1) (by omega)
   rw [ek] at hpt
   have hk0:0≤kk:=by omega
   have hf0:0≤f:=by omega
   have hf1:f≤5040:=by omega
   have hs0:0≤s:=by omega
   have hs1:s≤4000000000000000:=by omega
   have e1:(n:Int) - kk=(j:Int):=by omega
   have hk7:kk≤7:=by omega
   generalize t ^ (n - j)=P at *
   generalize b ^ j=B at *
   have m1:0≤f * (P:Int):=Int.mul_nonneg hf0 (by omega)
   have m2:f * (P:Int)≤5040 * 35831808:=Int.mul_le_mul hf1 (by omega) (by omega) (by omega)
   have m3:0≤f * (P:Int) * (B:Int):=Int.mul_nonneg m1 (by omega)
   have m4:f * (P:Int) * (B:Int)≤5040 * 35831808 * 65536:=Int.mul_le_mul m2 (by omega) (by omega) (by omega)
   have m5:0≤max kk 1∧max kk 1≤7:=by omega
   have m6:f * max kk 1≤5040 * 7:=Int.mul_le_mul hf1 m5.2 m5.1 (by omega)
   have m7:0≤f * max kk 1:=Int.mul_nonneg hf0 m5.1
   have HS:=Lib.hid hS
   have HF:=Lib.hid hF
   have HK:=Lib.hid v3
   clear v1 v2 v3 ek g1 g2 g3 g4 g5 g6 hS hF
   have w1:IntKind.i64.wrap ((n:Int) - kk)=(j:Int):=by rw [e1];exact IntWalk.i64_in _ (by omega)
   have w2:IntKind.i64.wrap (f * (P:Int))=f * P:=IntWalk.i64_in _ (by omega)
   have w3:IntKind.i64.wrap (f * (P:Int) * (B:Int))=f * P * B:=IntWalk.i64_in _ (by omega)
   have w4:IntKind.i64.wrap (s+f * (P:Int) * (B:Int))=s+f * P * B:=IntWalk.i64_in _ (by omega)
   have HX:Hid (RowKit.wrap64 (f * if kk < 1 then 1 else kk)=f * max kk 1):=Lib.hid (by
    rw [show (if kk < 1 then 1 else kk)=max kk 1 by split <;> omega]
    exact IntWalk.wrap64_in _ (by omega))
   clear e1
   go_wp2
   go_quiet ((go_at_call 132;(first | (with_reducible exact Calls.quiet_of_same (hpt _)) | (with_reducible exact Calls.quiet_of_same (hpb _)))))
   clear w1 w2 w3 w4
   go_wp2
   go_roundw
   case rel=>exact ⟨j+1,_,_,kk - 1,by omega,rfl,rfl,rfl,Lib.hid ⟨HS.out,HX.out.trans HF.out,by have:=HK.out;omega⟩,below_drewN hBr _⟩
   case measure=>simp [intOf];omega
  ·obtain rfl:j=n+1:=by omega
   obtain ⟨v1,v2,v3⟩:=HV.out
   have hk0:kk < 0:=by omega
   rw [← v1] at hre
   clear v1 v2 v3 HV HT HB H3
   generalize t ^ n=PP at *
   go_wp2_with (first | (go_at_call 132;(with_reducible refine (hpn _).mono ?_);rintro e w1 ⟨rfl,rfl⟩) | (go_at_call 123;(with_reducible refine (hre _).mono ?_);rintro e w2 ⟨rfl,hB2⟩;have hB3:=bcl hBr hB2;have s0:=qb _ hB3 c0;have s1:=qb _ hB3 c1;have q0:=qg _ hB3 c0 f0;have q1':=qg _ hB3 c1 f1))
   refine yA results122 ze qP rfl s0 s1 ⟨rfl,?_⟩
   exact ((bcl hBW hB3).setCell (by simp) _).setCell (by simp) _
set_option maxHeartbeats 2000000 in
set_option maxRecDepth 100000 in
theorem qcJ (t b n:Nat) (l:Int×Int) (ht:t≤12) (hb:1≤b∧b≤4) (hn:n≤7) (hl:Lim l) (w:World):Calls qf 97 #[fv ((t:Int),(b:Int)),.int .i64 n,fv l] w fun e w'=>e=.returned (.bool (borne ((t:Int),(b:Int)) n l))∧Below w.heap.size w w':=by
 have hlo:=fun W=>qcF t b n ht hb hn W
 obtain ⟨_,hk⟩:=qdf ht hb hn
 have hle:=fun W=>Less_lim (r:=above (QI t b n) l) rfl hk hl W
 rw [borne_eq (by have:=hl.1.1;omega)]
 generalize above (QI t b n) l=r at *
 generalize QI t b n=q at *
 clear hk hl
 obtain ⟨q1,q2⟩:=q
 obtain ⟨l1,l2⟩:=l
 simp only [fv] at *
 go_enter s97,ntmps97
 go_wp2_with fail
 go_region_held3 (fun w'=>w'.cell? ⟨w.heap.size,0,none⟩=some (.int .i64 t)∧w'.cell? ⟨w.heap.size,1,none⟩=some (.int .i64 b)∧w'.cell? ⟨w.heap.size+1,0,none⟩=some (.int .i64 l1)∧w'.cell? ⟨w.heap.size+1,1,none⟩=some (.int .i64 l2)∧Below w.heap.size w w')
  (first | exact ⟨by go_cell,by go_cell,by go_cell,by go_cell,by go_grown⟩ | exact qeG ‹_› hB | assumption) (first | (go_at_call 122;refine (hlo _).mono ?_;rintro e w1 ⟨rfl,hB⟩) | (go_at_call 49;refine (hle _).mono ?_;rintro e w1 ⟨rfl,hB⟩))
 all_goals
  go_wp2
  rename_i hH
  go_ret
  exact ⟨rfl,hH.2.2.2.2⟩
theorem qfU (c:UInt8) (w:World):Calls qf 94 #[.int .u8 c.toNat] w fun e w'=>e=.returned (.bool (btw c.toNat 97 122))∧w=w':=by
 by_cases h1:(97:Int)≤(c.toNat:Int)
 ·go_enter s94,ntmps94
  go_wp2
  go_ret
  exact ⟨by simp [btw,h1],rfl⟩
 ·go_enter s94,ntmps94
  go_wp2
  go_ret
  exact ⟨by simp [btw];omega,rfl⟩
theorem qeo (c:UInt8) (w:World):Calls qf 95 #[.int .u8 c.toNat] w fun e w'=>e=.returned (.bool (btw c.toNat 48 57))∧w=w':=by
 by_cases h1:(48:Int)≤(c.toNat:Int)
 ·go_enter s95,ntmps95
  go_wp2
  go_ret
  exact ⟨by simp [btw,h1],rfl⟩
 ·go_enter s95,ntmps95
  go_wp2
  go_ret
  exact ⟨by simp [btw];omega,rfl⟩
def qdI (s:ByteArray) (j:Nat):Bool:=btw ((s.data.toList.getD j 0).toNat:Int) 97 122 || (j != 0 && btw ((s.data.toList.getD j 0).toNat:Int) 48 57)
theorem name_bad {s:ByteArray} {k:Nat} (hk:k < s.size) (h:qdI s k=false):jF s=false:=by
 unfold qdI at h
 simp only [Bool.or_eq_false_iff,Bool.and_eq_false_iff] at h
 obtain ⟨h1,h2⟩:=h
 have hk':k < s.data.toList.length:=by simpa using hk
 have hg:s.data.toList.getD k 0=s.data.toList[k]:=by rw [List.getD_eq_getElem?_getD,List.getElem?_eq_getElem hk'];rfl
 unfold jF
 by_cases h0:k=0
 ·subst h0
  have:s.data.toList.headD 0=s.data.toList.getD 0 0:=by cases s.data.toList <;> rfl
  rw [this,h1]
  simp
 ·have hd:btw ((s.data.toList.getD k 0).toNat:Int) 48 57=false:=by
   rcases h2 with h2 | h2
   ·simp at h2;exact absurd h2 h0
   ·exact h2
  have:s.data.toList.any xO=true:=List.any_eq_true.2 ⟨s.data.toList[k],List.getElem_mem _,by unfold xO;rw [← hg,h1,hd];rfl⟩
  rw [this]
  simp
theorem qfh {s:ByteArray} (h:∀j,j < s.size→qdI s j=true):jF s=(1≤s.size && s.size≤9:Bool):=by
 unfold jF
 have hany:s.data.toList.any xO=false:=by
  rw [List.any_eq_false]
  intro x hx
  obtain ⟨j,hj,rfl⟩:=List.getElem_of_mem hx
  have:=h j (by simpa using hj)
  have hg:s.data.toList.getD j 0=s.data.toList[j]:=by rw [List.getD_eq_getElem?_getD,List.getElem?_eq_getElem hj];rfl
  unfold qdI at this
  rw [hg] at this
  unfold xO
  simp only [Bool.or_eq_true,Bool.and_eq_true] at this
  rcases this with a | ⟨_,a⟩ <;> rw [a] <;> simp
 by_cases h0:0 < s.size
 ·have:=h 0 h0
  unfold qdI at this
  have e:s.data.toList.headD 0=s.data.toList.getD 0 0:=by cases s.data.toList <;> rfl
  simp only [bne_self_eq_false,Bool.false_and,Bool.or_false] at this
  rw [e,this,hany]
  simp
 ·have e:s.size=0:=by omega
  rw [e]
  rfl
set_option maxHeartbeats 2000000 in
set_option maxRecDepth 100000 in
theorem qbs (s:ByteArray) (hs:s.size≤100) (w:World):Calls qf 52 #[.string s] w fun e w'=>e=.returned (.bool (jF s))∧w=w':=by
 obtain ⟨R,hR⟩:∃R,jF s=R:=⟨_,rfl⟩
 rw [hR]
 have HG:Hid ((∀j,j < s.size→qdI s j=true)→R=(1≤s.size && s.size≤9:Bool)):=Lib.hid fun h=>by rw [← hR];exact qfh h
 have HB:Hid (∀k,k < s.size→qdI s k=false→R=false):=Lib.hid fun k hk h=>by rw [← hR];exact name_bad hk h
 clear hR
 go_enter s52,ntmps52
 go_wp2
 go_loop [3] (fun i=>∃k:Nat,i=.int .i64 k∧k≤s.size∧Hid (∀j,j < k→qdI s j=true)) (fun i=>s.size - (intOf i).toNat)
 case atStart=>exact ⟨0,rfl,Nat.zero_le _,Lib.hid fun j hj=>absurd hj (Nat.not_lt_zero _)⟩
 case round =>
  obtain ⟨k,rfl,hk,HK⟩:=hrel
  by_cases hlt:k < s.size
  ·have hk':k < s.data.toList.length:=by simpa using hlt
   have hg:s.data.toList.getD k 0=s[k]:=by rw [List.getD_eq_getElem?_getD,List.getElem?_eq_getElem hk'];rfl
   have hok:qdI s k=(btw (s[k].toNat:Int) 97 122 || (k != 0 && btw (s[k].toNat:Int) 48 57)):=by unfold qdI;rw [hg]
   have hsm:=fun W=>qfU s[k] W
   have hdi:=fun W=>qeo s[k] W
   have hnext:qdI s k=true→Hid (∀j,j < k+1→qdI s j=true):=fun h=>Lib.hid fun j hj=>by
    rcases Nat.lt_succ_iff_lt_or_eq.1 hj with h1 | rfl
    ·exact HK.out j h1
    ·exact h
   have hlti:(k:Int) < (s.size:Int):=by omega
   cases h1:btw (s[k].toNat:Int) 97 122 with
   | true =>
     have HN:=hnext (by rw [hok,h1];rfl)
     simp only [h1] at hsm
     clear hok hnext hdi h1
     go_wp2_with (go_at_call 94;refine (hsm _).mono ?_;rintro e w' ⟨rfl,rfl⟩)
     go_round
     case rel=>exact ⟨k+1,by go_num,by omega,HN⟩
     case measure=>simp [intOf];omega
   | false =>
     simp only [h1] at hsm
     by_cases h0:k=0
     ·subst h0
      have hb:=HB.out 0 hlt (by rw [hok,h1];rfl)
      subst hb
      clear hok hnext hdi h1
      go_wp2_with (go_at_call 94;refine (hsm _).mono ?_;rintro e w' ⟨rfl,rfl⟩)
      go_ret
      exact ⟨rfl,rfl⟩
     ·have hkb:((k:Int) == 0)=false:=by rw [beq_eq_false_iff_ne];omega
      cases h2:btw (s[k].toNat:Int) 48 57 with
      | true =>
        have HN:=hnext (by rw [hok,h1,h2];simp [h0])
        simp only [h2] at hdi
        clear hok hnext h1 h2
        go_wp2_with (first | (go_at_call 94;refine (hsm _).mono ?_;rintro e w' ⟨rfl,rfl⟩) | (go_at_call 95;refine (hdi _).mono ?_;rintro e w' ⟨rfl,rfl⟩))
        go_round
        case rel=>exact ⟨k+1,by go_num,by omega,HN⟩
        case measure=>simp [intOf];omega
      | false =>
        have hb:=HB.out k hlt (by rw [hok,h1,h2];simp)
        subst hb
        simp only [h2] at hdi
        clear hok hnext h1 h2
        go_wp2_with (first | (go_at_call 94;refine (hsm _).mono ?_;rintro e w' ⟨rfl,rfl⟩) | (go_at_call 95;refine (hdi _).mono ?_;rintro e w' ⟨rfl,rfl⟩))
        go_ret
        exact ⟨rfl,rfl⟩
  ·obtain rfl:k=s.size:=by omega
   have hR:=HG.out HK.out
   by_cases hn:1≤(s.size:Int)∧(s.size:Int)≤9
   ·have hb:R=true:=by rw [hR];simp;omega
    subst hb
    clear hR
    go_wp2_with (go_at_call 51;refine (yJ _ _ _ _ hn).mono ?_;rintro e w' ⟨rfl,rfl⟩)
    go_ret
    exact ⟨rfl,rfl⟩
   ·have hb:R=false:=by rw [hR];simp;omega
    subst hb
    clear hR
    go_wp2_with (go_at_call 51;refine (ZR _ _ _ _ hn).mono ?_;rintro e w' ⟨rfl,rfl⟩)
    go_ret
    exact ⟨rfl,rfl⟩
def StrAt (w:World) (v:Value) (l:List ByteArray):Prop :=
 (l=[]∧v=.slice none 0 0)∨∃b c,v=.slice (some ⟨b,0,none⟩) l.length c∧∀(k:Nat) (s:ByteArray),l[k]? = some s→w.cell? ⟨b,k,none⟩=some (.string s)
def hasS (l:List ByteArray) (s:ByteArray):Bool:=l.any fun x=>x.toList == s.toList
set_option maxHeartbeats 2000000 in
set_option maxRecDepth 100000 in
theorem qaH (l:List ByteArray) (s:ByteArray) (v:Value) (hl:l.length≤1000) (w:World) (h:StrAt w v l) :
 Calls qf 53 #[v,.string s] w fun e w'=>(∃r:Int,e=.returned (.int .i64 r)∧decide (0≤r)=hasS l s)∧w=w':=by
 rcases h with ⟨rfl,rfl⟩ | ⟨b,c,rfl,hc⟩
 ·go_enter s53,ntmps53
  go_wp2
  refine wp_loop_rounds 1 ?_
  rw [rounds_succ]
  go_wp2
  go_ret
  exact ⟨⟨_,rfl,rfl⟩,rfl⟩
 ·have HC:=Lib.hid hc
  clear hc
  go_enter s53,ntmps53
  go_wp2
  go_loop [5] (fun i=>∃k:Nat,i=.int .i64 k∧k≤l.length∧Hid (∀j x,j < k→l[j]? = some x→(x.toList == s.toList)=false)) (fun i=>l.length - (intOf i).toNat)
  case atStart=>exact ⟨0,rfl,Nat.zero_le _,Lib.hid fun j x hj=>absurd hj (Nat.not_lt_zero _)⟩
  case round =>
   obtain ⟨k,rfl,hk,HK⟩:=hrel
   by_cases hlt:k < l.length
   ·obtain ⟨x,hx⟩:∃x,l[k]? = some x:=⟨l[k],by simp [hlt]⟩
    have c0:=HC.out k x hx
    have hm:x∈l:=List.mem_of_getElem? hx
    cases hq:(x.toList == s.toList) with
    | true =>
      have hh:hasS l s=true:=List.any_eq_true.2 ⟨x,hm,hq⟩
      clear hx hm
      go_wp2
      go_ret
      exact ⟨⟨_,rfl,by omega⟩,rfl⟩
    | false =>
      have HN:Hid (∀j y,j < k+1→l[j]? = some y→(y.toList == s.toList)=false):=Lib.hid fun j y hj hy=>by
       rcases Nat.lt_succ_iff_lt_or_eq.1 hj with h1 | rfl
       ·exact HK.out j y h1 hy
       ·rw [hx] at hy
        cases hy
        exact hq
      clear hx hm
      go_wp2
      go_round
      case rel=>exact ⟨k+1,by go_num,by omega,HN⟩
      case measure=>simp [intOf];omega
   ·obtain rfl:k=l.length:=by omega
    have hh:hasS l s=false:=by
     unfold hasS
     rw [List.any_eq_false]
     intro x hx
     obtain ⟨j,hj,rfl⟩:=List.getElem_of_mem hx
     rw [HK.out j l[j] hj (by simp [hj])]
     simp
    go_wp2
    go_ret
    exact ⟨⟨_,rfl,by omega⟩,rfl⟩
end Go.Proofs.Tryz
namespace Go.Proofs.Tryz
open Go Go.Load Go.RowKit Go.Maps
theorem info_str:(Tryz.prog.info? 9).map (fun i=>(i.zero,i.size,i.bytes))=some (some (.string ⟨#[]⟩),1,16):=by kernel_rfl
theorem qdB {base:Nat} {e:TypeId} {W:World} {v:Value} {l:List ByteArray} (h:W.ownsRow base e 1 v l.length (l.map .string)):StrAt W v l:=by
 have hh:=h
 obtain ⟨_,⟨h1,h2⟩ | ⟨g,cap,cur,rfl,_⟩⟩:=h
 ·exact .inl ⟨List.length_eq_zero_iff.1 h2,h1⟩
 ·refine .inr ⟨g,cap,rfl,fun k s hk=>?_⟩
  have:=hh.cells (g:=g) rfl k (.string s) (by simp [hk])
  have e1:(⟨g,0,none⟩:Addr).add k=⟨g,k,none⟩:=by simp [Addr.add];intro h;exact h.symm
  rw [e1] at this
  exact this
def qan (gs:List Grp):List Value:=gs.map fun g=>.string g.name
theorem qdj {gs:List Grp} {k:Nat} {g:Grp} (hg:gs[k]? = some g):qan (gs.take k) ++ [.string g.name]=qan (gs.take (k+1)):=by
 unfold qan
 rw [List.take_add_one,hg]
 simp
theorem qfi {base:Nat} {e:TypeId} {W:World} {v:Value} {gs:List Grp} {k:Nat} (hk:k≤gs.length) (h:W.ownsRow base e 1 v k (qan (gs.take k))):StrAt W v ((gs.take k).map (·.name)):=by
 refine qdB (base:=base) (e:=e) ?_
 rw [List.length_map,List.length_take,Nat.min_eq_left hk,List.map_map]
 exact h
theorem qcW (gs:List Grp) (s:ByteArray):hasS (gs.map (·.name)) s=gs.any fun o=>o.name.toList == s.toList:=by
 unfold hasS
 rw [List.any_map]
 rfl
theorem traf_all {l:List (Int×Int)}:(l.any fun x => !decide (zT x))=false↔∀(j:Nat) (x:Int×Int),l[j]? = some x→zT x:=by
 rw [List.any_eq_false]
 constructor
 ·intro h j x hx
  simpa using h x (List.mem_of_getElem? hx)
 ·intro h x hx
  obtain ⟨j,hj,rfl⟩:=List.getElem_of_mem hx
  have:=h j l[j] (by simp [hj])
  simpa using this
theorem qgd {l:List (Int×Int)} {j:Nat} {x:Int×Int} (hx:l[j]? = some x) (h:¬ zT x):(l.any fun x => !decide (zT x))=true:=List.any_eq_true.2 ⟨x,List.mem_of_getElem? hx,by simpa using h⟩
set_option maxHeartbeats 4000000 in
set_option maxRecDepth 100000 in
theorem qdq (B:Bk) (w:World) (hn:¬ JH B):Calls qf 11 #[bv B] w fun e w'=>e=.returned (.int .i64 1)∧Below w.heap.size w w':=by
 obtain ⟨lim,gr,hr,gs,ga,gc⟩:=B
 simp only [bv]
 by_cases h1:Lim lim
 ·have hli:=fun W=>Zw lim W h1
  simp only [fv] at hli
  by_cases h2:0≤gr∧gr≤100
  ·have h3:¬ (1≤hr∧hr≤3):=fun h=>hn ⟨h1,h2,h⟩
   go_enter s11,ntmps11
   go_wp2_with (first | (go_at_call 50;(with_reducible refine (hli _).mono ?_);rintro e w1 ⟨rfl,hB1⟩;(first | (replace hB:=bcl (by with_reducible assumption) hB1) | (replace hB:=bcl (by go_grown) hB1) | (have hB:=hB1));(try clear hc hg hz);obtain ⟨hc,hg⟩:=qy hB;have hz:=hB.size;clear hB1;(try simp at hz);(try have hlt0:w.heap.size < w1.heap.size:=by omega)) | (go_at_call 51;(with_reducible refine (yJ _ _ _ _ h2).mono ?_);rintro e w1 ⟨rfl,rfl⟩) | (go_at_call 51;(with_reducible refine (ZR _ _ _ _ h3).mono ?_);rintro e w1 ⟨rfl,rfl⟩))
   go_ret
   exact ⟨rfl,bcl (w:=w) (by go_grown) hB⟩
  ·go_enter s11,ntmps11
   go_wp2_with (first | (go_at_call 50;(with_reducible refine (hli _).mono ?_);rintro e w1 ⟨rfl,hB1⟩;(first | (replace hB:=bcl (by with_reducible assumption) hB1) | (replace hB:=bcl (by go_grown) hB1) | (have hB:=hB1));(try clear hc hg hz);obtain ⟨hc,hg⟩:=qy hB;have hz:=hB.size;clear hB1;(try simp at hz);(try have hlt0:w.heap.size < w1.heap.size:=by omega)) | (go_at_call 51;(with_reducible refine (ZR _ _ _ _ h2).mono ?_);rintro e w1 ⟨rfl,rfl⟩))
   go_ret
   exact ⟨rfl,bcl (w:=w) (by go_grown) hB⟩
 ·have hli:=fun W=>qfG lim W h1
  simp only [fv] at hli
  go_enter s11,ntmps11
  go_wp2_with (first | (go_at_call 50;(with_reducible refine (hli _).mono ?_);rintro e w1 ⟨rfl,hB1⟩;(first | (replace hB:=bcl (by with_reducible assumption) hB1) | (replace hB:=bcl (by go_grown) hB1) | (have hB:=hB1));(try clear hc hg hz);obtain ⟨hc,hg⟩:=qy hB;have hz:=hB.size;clear hB1;(try simp at hz);(try have hlt0:w.heap.size < w1.heap.size:=by omega)))
  go_ret
  exact ⟨rfl,bcl (w:=w) (by go_grown) hB⟩
set_option maxHeartbeats 4000000 in
set_option maxRecDepth 100000 in
theorem qdp (B:Bk) (w:World) (hn:JH B) (hl:¬ (1≤B.gs.length∧B.gs.length≤4)):Calls qf 11 #[bv B] w fun e w'=>e=.returned (.int .i64 2)∧Below w.heap.size w w':=by
 obtain ⟨lim,gr,hr,gs,ga,gc⟩:=B
 simp only [bv]
 obtain ⟨h1,h2,h3⟩:=hn
 simp only at h1 h2 h3 hl
 have hli:=fun W=>Zw lim W h1
 simp only [fv] at hli
 have h4:¬ ((1:Int)≤(gs.length:Int)∧(gs.length:Int)≤4):=by omega
 go_enter s11,ntmps11
 go_wp2_with (first | (go_at_call 50;(with_reducible refine (hli _).mono ?_);rintro e w1 ⟨rfl,hB1⟩;(first | (replace hB:=bcl (by with_reducible assumption) hB1) | (replace hB:=bcl (by go_grown) hB1) | (have hB:=hB1));(try clear hc hg hz);obtain ⟨hc,hg⟩:=qy hB;have hz:=hB.size;clear hB1;(try simp at hz);(try have hlt0:w.heap.size < w1.heap.size:=by omega)) | (go_at_call 51;(with_reducible refine (yJ _ _ _ _ h2).mono ?_);rintro e w1 ⟨rfl,rfl⟩) | (go_at_call 51;(with_reducible refine (yJ _ _ _ _ h3).mono ?_);rintro e w1 ⟨rfl,rfl⟩) | (go_at_call 51;(with_reducible refine (ZR _ _ _ _ h4).mono ?_);rintro e w1 ⟨rfl,rfl⟩))
 go_ret
 exact ⟨rfl,bcl (w:=w) (by go_grown) hB⟩
theorem QD (w:World) (x:Value) (t:TypeId) (z:Nat) (hz:w.heap.size=z):∀j u,[x][j]? = some u→(w.alloc (.cells #[x] t)).cell? ((⟨z,0,none⟩:Addr).add j)=some u:=by subst hz;exact cell_one_new w x t
theorem QK (s:ByteArray):∀u∈[Value.string s],u.oneCell'=true:=by
 intro u hu
 rw [List.mem_singleton] at hu
 subst hu
 rfl
theorem qaL (p q s:Prop) [Decidable p] [Decidable q] [Decidable s] (X:Int):(if (if p then (1:Int) else if q then 2 else if s then 1 else 0)≠0 then (if p then (1:Int) else if q then 2 else if s then 1 else 0) else X)=if p then 1 else if q then 2 else if s then 1 else X:=by
 by_cases hp:p <;> by_cases hq:q <;> by_cases hs:s <;> simp [hp,hq,hs]
set_option maxHeartbeats 4000000 in
set_option maxRecDepth 100000 in
theorem Qm (B:Bk) (w:World) (h:BookAt w B):Calls qf 11 #[bv B] w fun e w'=>e=.returned (.int .i64 (checkN B))∧Below w.heap.size w w':=by
 by_cases hn:JH B
 case neg =>
  have e1:zL B=1:=if_neg hn
  have e:checkN B=1:=by unfold checkN;rw [e1,if_neg (by decide)]
  rw [e]
  exact qdq B w hn
 have e1:zL B=0:=if_pos hn
 have e:checkN B=yV B:=by unfold checkN;rw [e1,if_pos rfl]
 rw [e]
 clear e e1
 by_cases hlen:1≤B.gs.length∧B.gs.length≤4
 case neg =>
  rw [show yV B=2 from if_neg hlen]
  exact qdp B w hn hlen
 rw [show yV B=qV (zw B.gs B.hours) 0 B.gs from if_pos hlen]
 obtain ⟨R,hR⟩:∃R,qV (zw B.gs B.hours) 0 B.gs=R:=⟨_,rfl⟩
 rw [hR]
 have hrow:=h.row
 have hsm:=h.small.2
 have htr:=h.traf
 clear h
 obtain ⟨lim,gr,hr,gs,ga,gc⟩:=B
 obtain ⟨h1,h2,h3⟩:=hn
 simp only at h1 h2 h3 hlen hrow hR hsm htr
 simp only [bv]
 have HR:=Lib.hid hR
 clear hR
 obtain ⟨b,o,hga,hcs⟩:=hrow hlen.1
 simp only at hga hcs
 subst hga
 have HC:=Lib.hid hcs
 have HS:=Lib.hid hsm
 have HT:=Lib.hid htr
 clear hcs hsm htr hrow
 have hli:=fun W=>Zw lim W h1
 simp only [fv] at hli
 obtain ⟨i0,hi,hz0,hz1,hz2⟩:=info_parts info_str
 have h4:((1:Int)≤(gs.length:Int)∧(gs.length:Int)≤4):=by omega
 go_enter s11,ntmps11
 go_wp2_with (first | (go_at_call 50;(with_reducible refine (hli _).mono ?_);rintro e w1 ⟨rfl,hB1⟩;(first | (replace hB:=bcl (by with_reducible assumption) hB1) | (replace hB:=bcl (by go_grown) hB1) | (have hB:=hB1));(try clear hc hg hz);obtain ⟨hc,hg⟩:=qy hB;have hz:=hB.size;clear hB1;(try simp at hz);(try have hlt0:w.heap.size < w1.heap.size:=by omega)) | (go_at_call 51;(with_reducible refine (yJ _ _ _ _ h2).mono ?_);rintro e w1 ⟨rfl,rfl⟩) | (go_at_call 51;(with_reducible refine (yJ _ _ _ _ h3).mono ?_);rintro e w1 ⟨rfl,rfl⟩) | (go_at_call 51;(with_reducible refine (yJ _ _ _ _ h4).mono ?_);rintro e w1 ⟨rfl,rfl⟩))
 obtain ⟨W,hW⟩:∃W,W=w1:=⟨_,rfl⟩
 have k3:W.cell? ⟨w.heap.size,3,none⟩=some (.int .i64 hr):=by rw [hW];go_cell
 have k4:W.cell? ⟨w.heap.size,4,none⟩=some (.slice (some ⟨b,o,none⟩) gs.length gc):=by rw [hW];go_cell
 have hBW:Below w.heap.size w W:=by rw [hW];exact bcl (w:=w) (by go_grown) hB
 rw [← hW]
 clear hc hg hB hz hW
 go_loopw [3,4] (fun v i wr=>∃k:Nat,i=.int .i64 k∧k≤gs.length∧Below W.heap.size W wr∧wr.ownsRow W.heap.size 9 1 v k (qan (gs.take k))∧Hid (qV (zw gs hr) k (gs.drop k)=R)) (fun _ i _=>gs.length - (intOf i).toNat)
 case atStart=>exact ⟨0,rfl,by omega,Below.refl _ _,World.ownsRow_nil _ _ _ _,HR⟩
 case round =>
  obtain ⟨k,rfl,hk,hBr,hown,HE⟩:=hrel
  have k3W:=k3
  have k4W:=k4
  have k3:=qb _ hBr k3
  have k4:=qb _ hBr k4
  have hBw:=bcl hBW hBr
  have hsz:=hBw.size
  have hsz1:=hBr.size
  have hsz2:w.heap.size < wr.heap.size:=lt_of_cell k4
  by_cases hlt:k < gs.length
  ·obtain ⟨g,hg⟩:∃g,gs[k]? = some g:=⟨gs[k],by simp [hlt]⟩
   have hm:g∈gs:=List.mem_of_getElem? hg
   obtain ⟨c0,c1,c2⟩:=HC.out k g hg
   have c0:=qb _ hBw c0
   have c1:=qb _ hBw c1
   have c2:=qb _ hBw c2
   have hnm:=fun W=>qbs g.name (HS.out g hm).2 W
   have hix:=fun (X:World) (hB:Below wr.heap.size wr X)=>qaH ((gs.take k).map (·.name)) g.name _ (by rw [List.length_map,List.length_take];omega) X (qfi hk (yw hown hB))
   simp only [qcW] at hix
   have hA:=HE.out
   rw [jM _ hg] at hA
   obtain ⟨r1,h1⟩:∃r,jF g.name=r:=⟨_,rfl⟩
   obtain ⟨r2,h2⟩:∃r,((gs.take k).any fun o=>o.name.toList == g.name.toList)=r:=⟨_,rfl⟩
   have hga:zw gs hr k g=if r1=false then 4 else if r2=true then 5 else if btw g.trunks 0 7=false then 1 else if (g.traffic.length:Int)≠hr then 2 else if (g.traffic.any fun x => !decide (zT x))=true then 1 else 0:=by unfold zw;rw [h1,h2]
   rw [hga] at hA
   simp only [h1] at hnm
   simp only [h2] at hix
   have hstep:=qdj hg
   clear hga h1 h2
   have fin:∀{q:Int} {w1:World},R=q→Below w.heap.size w w1→Ending.returned (.int .i64 q)=Ending.returned (.int .i64 R)∧Below w.heap.size w w1:=fun e hb=>⟨by rw [e],hb⟩
   cases r1 with
   | false =>
     simp only [if_true] at hA
     have HA:Hid (R=4):=Lib.hid (by rw [← hA];rfl)
     clear hA hix
     go_wp2_with (first | (go_at_call 52;(with_reducible refine (hnm _).mono ?_);rintro e w1 ⟨rfl,rfl⟩))
     go_ret
     exact fin HA.out (Below.call hBw (B:=w.heap.size) (by go_grown) (by omega))
   | true =>
     cases r2 with
     | true =>
       have HA:Hid (R=5):=Lib.hid (by rw [← hA];rfl)
       clear hA
       go_wp2_with (first | (go_at_call 52;(with_reducible refine (hnm _).mono ?_);rintro e w1 ⟨rfl,rfl⟩) | (go_at_call 53;(refine (hix _ (by go_grown)).mono ?_);rintro e w1 ⟨⟨ri,rfl,hri⟩,rfl⟩))
       go_ret
       exact fin HA.out (Below.call hBw (B:=w.heap.size) (by go_grown) (by omega))
     | false =>
       rw [if_neg (show ¬ (true=false) by decide),if_neg (show ¬ (false=true) by decide),qaL] at hA
       have hne:some wr.heap.size≠u3.ownBlock:=fun e=>by have:=(hown.lt _ e.symm).2;omega
       by_cases ht:0≤g.trunks∧g.trunks≤7
       ·have htb:btw g.trunks 0 7=true:=by unfold btw;simp [ht.1,ht.2]
        rw [htb] at hA
        rw [if_neg (show ¬ (true=false) by decide)] at hA
        by_cases hl:(g.traffic.length:Int)=hr
        ·have hlb:((g.traffic.length:Int) != hr)=false:=by simp [hl]
         have HA:=Lib.hid hA
         obtain ⟨tb,tq,hta,hps⟩:=HT.out g hm (by omega)
         have HP:=Lib.hid hps
         have hm20:=(HS.out g hm).1
         clear hA hps hg hm
         go_wp2_with (first | (go_at_call 52;(with_reducible refine (hnm _).mono ?_);rintro e w1 ⟨rfl,rfl⟩) | (go_at_call 53;(refine (hix _ (by go_grown)).mono ?_);rintro e w1 ⟨⟨ri,rfl,hri⟩,rfl⟩) | (at_builtin;refine wpList_append_own _ rfl (.tmp 49) (.tmp 52) 81 rfl W.heap.size 9 i0 (.string ⟨#[]⟩) 1 16 ((zf _).trans Tryz.underlying81) hi hz0 hz1 hz2 rfl (by decide) _ _ _ rfl ((yw hown (by go_grown)).alloc _) ⟨_,0,none⟩ 1 1 [.string g.name] rfl rfl (QD _ _ _ _ (by simp)) (QK _) (by unfold maxLen;omega) (by omega) (by simp;omega) ?_;intro v1 w3 hown1 hgrow1 hnil1;have b1:w3.cell? ⟨wr.heap.size,1,none⟩=some (.int .i64 g.trunks):=hgrow1.cell (by go_cell) hne;have b2:w3.cell? ⟨wr.heap.size,2,none⟩=some (.slice g.ta g.traffic.length g.tc):=hgrow1.cell (by go_cell) hne;have hB3:Below W.heap.size W w3:=((bcl hBr (by go_grown)).alloc (by simp;omega) _).grown hgrow1 (by simp;omega) (fun j hj=>(hown.lt j hj).1);have z3:=hB3.size;have k3':=qb _ hB3 k3W;have k4':=qb _ hB3 k4W;have hBw3:=bcl hBW hB3) | (go_at_call 54;(with_reducible refine (YR _ _ ht).mono ?_);rintro e w1 ⟨rfl,rfl⟩))
         rw [hta] at b2
         clear k3 k4 c0 c1 c2 k3W k4W b1
         go_loopw [6] (fun i wq=>∃j:Nat,i=.int .i64 j∧j≤g.traffic.length∧Below w3.heap.size w3 wq∧Hid (∀(p:Nat) (x:Int×Int),p < j→g.traffic[p]? = some x→zT x)) (fun i _=>g.traffic.length - (intOf i).toNat)
         case atStart=>exact ⟨0,rfl,by omega,Below.refl _ _,Lib.hid fun p x hp=>absurd hp (Nat.not_lt_zero _)⟩
         case round =>
          rename_i wq
          obtain ⟨j,rfl,hj,hBq,HJ⟩:=hrel
          have b2:=qb _ hBq b2
          have hBwq:=bcl hBw3 hBq
          by_cases hjl:j < g.traffic.length
          ·obtain ⟨x,hx⟩:∃x,g.traffic[j]? = some x:=⟨g.traffic[j],by simp [hjl]⟩
           obtain ⟨p0,p1⟩:=HP.out j x hx
           have p0:=qb _ hBwq p0
           have p1:=qb _ hBwq p1
           by_cases hT:zT x
           ·have htf:=fun W=>ZM x W hT
            simp only [fv] at htf
            have HN:Hid (∀(p:Nat) (y:Int×Int),p < j+1→g.traffic[p]? = some y→zT y):=Lib.hid fun p y hp hy=>by
             rcases Nat.lt_succ_iff_lt_or_eq.1 hp with q1 | rfl
             ·exact HJ.out p y q1 hy
             ·rw [hx] at hy
              cases hy
              exact hT
            clear hx hT
            go_wp2_with (go_at_call 55;(with_reducible refine (htf _).mono ?_);rintro e wz ⟨rfl,hBz⟩)
            go_roundw
            case rel=>exact ⟨j+1,by go_num,by omega,bcl hBq hBz,HN⟩
            case measure=>simp [intOf];omega
           ·have htf:=fun W=>YQ x W hT
            simp only [fv] at htf
            have HA:Hid (R=1):=Lib.hid (by rw [← HA.out,if_neg (by simp [hl]),if_pos (qgd hx hT)])
            clear hx hT
            go_wp2_with (go_at_call 55;(with_reducible refine (htf _).mono ?_);rintro e wz ⟨rfl,hBz⟩)
            go_ret
            exact fin HA.out (bcl hBwq hBz)
          ·obtain rfl:j=g.traffic.length:=by omega
           have HA:Hid (qV (zw gs hr) (k+1) (gs.drop (k+1))=R):=Lib.hid (by rw [← HA.out,if_neg (by simp [hl]),if_neg (by rw [traf_all.2 fun p x hx=>HJ.out p x (List.getElem?_eq_some_iff.1 hx).1 hx];simp)])
           go_wp2
           go_roundw
           case rel=>exact ⟨k+1,by go_num,by omega,bcl hB3 hBq,by rw [← hstep];exact yw hown1 hBq,HA⟩
           case measure=>simp [intOf];omega
        ·have hlb:((g.traffic.length:Int) != hr)=true:=by simp [hl]
         have HA:Hid (R=2):=Lib.hid (by rw [← hA,if_pos hl])
         clear hA hg hm
         go_wp2_with (first | (go_at_call 52;(with_reducible refine (hnm _).mono ?_);rintro e w1 ⟨rfl,rfl⟩) | (go_at_call 53;(refine (hix _ (by go_grown)).mono ?_);rintro e w1 ⟨⟨ri,rfl,hri⟩,rfl⟩) | (at_builtin;refine wpList_append_own _ rfl (.tmp 49) (.tmp 52) 81 rfl W.heap.size 9 i0 (.string ⟨#[]⟩) 1 16 ((zf _).trans Tryz.underlying81) hi hz0 hz1 hz2 rfl (by decide) _ _ _ rfl ((yw hown (by go_grown)).alloc _) ⟨_,0,none⟩ 1 1 [.string g.name] rfl rfl (QD _ _ _ _ (by simp)) (QK _) (by unfold maxLen;omega) (by omega) (by simp;omega) ?_;intro v1 w3 hown1 hgrow1 hnil1;have b1:w3.cell? ⟨wr.heap.size,1,none⟩=some (.int .i64 g.trunks):=hgrow1.cell (by go_cell) hne;have b2:w3.cell? ⟨wr.heap.size,2,none⟩=some (.slice g.ta g.traffic.length g.tc):=hgrow1.cell (by go_cell) hne;have hB3:Below W.heap.size W w3:=((bcl hBr (by go_grown)).alloc (by simp;omega) _).grown hgrow1 (by simp;omega) (fun j hj=>(hown.lt j hj).1);have z3:=hB3.size;have k3':=qb _ hB3 k3W;have k4':=qb _ hB3 k4W;have hBw3:=bcl hBW hB3) | (go_at_call 54;(with_reducible refine (YR _ _ ht).mono ?_);rintro e w1 ⟨rfl,rfl⟩))
         go_ret
         exact fin HA.out hBw3
       ·have htb:btw g.trunks 0 7=false:=by unfold btw;rw [Bool.and_eq_false_iff,decide_eq_false_iff_not,decide_eq_false_iff_not];omega
        have HA:Hid (R=1):=Lib.hid (by rw [← hA,if_pos htb])
        clear hA hg hm
        go_wp2_with (first | (go_at_call 52;(with_reducible refine (hnm _).mono ?_);rintro e w1 ⟨rfl,rfl⟩) | (go_at_call 53;(refine (hix _ (by go_grown)).mono ?_);rintro e w1 ⟨⟨ri,rfl,hri⟩,rfl⟩) | (at_builtin;refine wpList_append_own _ rfl (.tmp 49) (.tmp 52) 81 rfl W.heap.size 9 i0 (.string ⟨#[]⟩) 1 16 ((zf _).trans Tryz.underlying81) hi hz0 hz1 hz2 rfl (by decide) _ _ _ rfl ((yw hown (by go_grown)).alloc _) ⟨_,0,none⟩ 1 1 [.string g.name] rfl rfl (QD _ _ _ _ (by simp)) (QK _) (by unfold maxLen;omega) (by omega) (by simp;omega) ?_;intro v1 w3 hown1 hgrow1 hnil1;have b1:w3.cell? ⟨wr.heap.size,1,none⟩=some (.int .i64 g.trunks):=hgrow1.cell (by go_cell) hne;have b2:w3.cell? ⟨wr.heap.size,2,none⟩=some (.slice g.ta g.traffic.length g.tc):=hgrow1.cell (by go_cell) hne;have hB3:Below W.heap.size W w3:=((bcl hBr (by go_grown)).alloc (by simp;omega) _).grown hgrow1 (by simp;omega) (fun j hj=>(hown.lt j hj).1);have z3:=hB3.size;have k3':=qb _ hB3 k3W;have k4':=qb _ hB3 k4W;have hBw3:=bcl hBW hB3) | (go_at_call 54;(with_reducible refine (qds _ _ ht).mono ?_);rintro e w1 ⟨rfl,rfl⟩))
        go_ret
        exact fin HA.out hBw3
  ·obtain rfl:k=gs.length:=by omega
   have hA:=HE.out
   rw [List.drop_length] at hA
   have HA:=Lib.hid hA
   clear hA
   go_wp2
   go_ret
   exact ⟨by rw [← HA.out];rfl,hBw⟩
end Go.Proofs.Tryz
namespace Go.Proofs.Tryz
open Go Go.Load Go.RowKit
theorem yS (w:World):(isAgg 45).run qf w=.ok true w:=(zC _ _).trans (Tryz.isAgg45 w)
theorem yj (w:World):(Go.sizeOf 45).run qf w=.ok 2 w:=(yl _ _).trans (Tryz.sizeOf45 w)
set_option maxHeartbeats 1000000 in
theorem sums_any (l:List (Int×Int)) (b o c:Nat) (hl:l.length≤4) (h1:∀x∈l,0≤x.1∧x.1≤9) (h2:∀x∈l,0≤x.2∧x.2≤9) (w:World) (hP:qE w b o l) :
 Calls qf 73 #[.slice (some ⟨b,o,none⟩) l.length c] w fun e w'=>e=.returned (.tuple #[.int .i64 (ZB l),.int .i64 (ZY l)])∧Below w.heap.size w w':=by
 go_enter s73,ntmps73
 go_wp2
 go_loopw [2,3,8] (fun x y i wr=>∃k:Nat,i=.int .i64 k∧k≤l.length∧x=.int .i64 (ZB (l.take k))∧y=.int .i64 (ZY (l.take k))∧Below w.heap.size w wr) (fun _ _ i _=>l.length - (intOf i).toNat)
 case atStart=>exact ⟨0,rfl,Nat.zero_le _,rfl,rfl,by go_grown⟩
 case round =>
  obtain ⟨k,rfl,hk,rfl,rfl,hB⟩:=hrel
  by_cases hlt:k < l.length
  ·obtain ⟨x,hx⟩:∃x,l[k]? = some x:=⟨l[k],by simp [hlt]⟩
   have n1:=qax hx
   have n2:=qay hx
   have b1:=Js (l:=l.take k) (m:=9) fun y hy=>h1 y (List.mem_of_mem_take hy)
   have b2:=Jt (l:=l.take k) (m:=9) fun y hy=>h2 y (List.mem_of_mem_take hy)
   have hm:x∈l:=List.mem_of_getElem? hx
   have x1:=h1 x hm
   have x2:=h2 x hm
   obtain ⟨c0,c1⟩:=hP k x hx
   have c0:=qb _ hB c0
   have c1:=qb _ hB c1
   rw [List.length_take,Nat.min_eq_left hk] at b1 b2
   have N1:=Lib.hid n1
   have N2:=Lib.hid n2
   clear n1 n2 hP h1 h2
   generalize ZB (l.take k)=s1 at *
   generalize ZY (l.take k)=s2 at *
   obtain ⟨x1',x2'⟩:=x
   simp only at x1 x2 c0 c1 N1 N2
   have e1:IntKind.i64.wrap (s1+x1')=s1+x1':=IntWalk.i64_in _ (by omega)
   have e2:IntKind.i64.wrap (s2+x2')=s2+x2':=IntWalk.i64_in _ (by omega)
   go_wp2
   go_quiet (fail)
   clear e1 e2
   go_wp2
   go_roundw
   case rel=>exact ⟨k+1,rfl,by omega,by rw [N1.out],by rw [N2.out],below_drewN (hB.alloc (by have:=hB.size;omega) _) _⟩
   case measure=>simp [intOf];omega
  ·obtain rfl:k=l.length:=by omega
   go_wp2
   go_ret2
   exact ⟨by rw [List.take_length];rfl,hB⟩
def Cnt (x:Int×Int):Prop:=0≤x.1∧x.1≤x.2∧x.2≤9
instance (x:Int×Int):Decidable (Cnt x):=by unfold Cnt;infer_instance
def qaY (l:List (Int×Int)) (p:Int):Value :=
 if 1≤l.length∧l.length≤4 then (if (∀x∈l,Cnt x)∧1≤p∧p≤4 then tv (p * ZB l / l.length,p * ZY l / l.length) 0 else tv (0,0) 1) else tv (0,0) 2
theorem qcB (a:Option Addr) (n c:Nat) (p:Int) (h:¬ (1≤n∧n≤4)) (w:World):Calls qf 22 #[.slice a n c,.int .i64 p] w fun e w'=>e=.returned (tv (0,0) 2)∧Below w.heap.size w w':=by
 simp only [tv,fv] at *
 go_enter s22,ntmps22
 go_wp2_with (go_at_call 65;(with_reducible refine (qU _ _ _ _ (by omega)).mono ?_);rintro e w1 ⟨rfl,rfl⟩)
 go_returns
 exact ⟨rfl,by go_grown⟩
def XM (w wr:World):Prop:=Below w.heap.size w wr∧w.heap.size+1≤wr.heap.size∧wr.cell? ⟨w.heap.size,0,none⟩=some (.int .i64 0)∧wr.cell? ⟨w.heap.size,1,none⟩=some (.int .i64 0)∧wr.frozen? ⟨w.heap.size,0,none⟩=false∧wr.frozen? ⟨w.heap.size,1,none⟩=false
theorem XM.alloc {w wr:World} {o:Obj} (h:XM w wr):XM w (wr.alloc o):=by
 obtain ⟨a,b,c,d,e,f⟩:=h
 exact ⟨a.alloc (by omega) _,by simp;omega,qi c,qi d,qm c e,qm d f⟩
theorem XM.call {w wr w1:World} (h:XM w wr) (hB:Below wr.heap.size wr w1):XM w w1:=by
 obtain ⟨a,b,c,d,e,f⟩:=h
 exact ⟨bcl a hB,Nat.le_trans b hB.size,qb _ hB c,qb _ hB d,qg _ hB c e,qg _ hB d f⟩
set_option maxHeartbeats 2000000 in
theorem qdP (l:List (Int×Int)) (b o c:Nat) (p:Int) (hl1:1≤l.length) (hl:l.length≤4) (w:World) (hP:qE w b o l) :
 Calls qf 22 #[.slice (some ⟨b,o,none⟩) l.length c,.int .i64 p] w fun e w'=>e=.returned (if (∀x∈l,Cnt x)∧1≤p∧p≤4 then tv (p * ZB l / l.length,p * ZY l / l.length) 0 else tv (0,0) 1)∧Below w.heap.size w w':=by
 obtain ⟨V,hV⟩:∃V,(if (∀x∈l,Cnt x)∧1≤p∧p≤4 then tv (p * ZB l / l.length,p * ZY l / l.length) 0 else tv (0,0) 1)=V:=⟨_,rfl⟩
 rw [hV]
 have HV:=Lib.hid hV
 clear hV
 go_enter s22,ntmps22
 go_wp2_with (go_at_call 65;(with_reducible refine (qD _ _ _ _ (by omega)).mono ?_);rintro e w1 ⟨rfl,rfl⟩)
 go_loopw [17] (fun i wr=>∃k:Nat,i=.int .i64 k∧k≤l.length∧XM w wr∧Hid (∀x∈l.take k,Cnt x)) (fun i _=>l.length - (intOf i).toNat)
 case atStart=>exact ⟨0,rfl,Nat.zero_le _,⟨by go_grown,by simp,by go_cell,by go_cell,by go_cell,by go_cell⟩,Lib.hid (by simp)⟩
 case round =>
  obtain ⟨k,rfl,hk,hF,HT⟩:=hrel
  by_cases hlt:k < l.length
  ·obtain ⟨x,hx⟩:∃x,l[k]? = some x:=⟨l[k],by simp [hlt]⟩
   have hm:x∈l:=List.mem_of_getElem? hx
   obtain ⟨c0,c1⟩:=hP k x hx
   have c0:=qb _ hF.1 c0
   have c1:=qb _ hF.1 c1
   have HX:=Lib.hid hx
   have HM:=Lib.hid hm
   clear hx hm hP
   by_cases hg:Cnt x
   ·have HG:=Lib.hid hg
    obtain ⟨g1,g2,g3⟩:=hg
    obtain ⟨x1,x2⟩:=x
    simp only at g1 g2 g3 c0 c1
    go_wp2
    go_roundw
    case rel =>
     refine ⟨k+1,rfl,by omega,hF.alloc,Lib.hid ?_⟩
     rw [List.take_succ_eq_append_getElem hlt]
     intro y hy
     rcases List.mem_append.1 hy with h | h
     ·exact HT.out y h
     ·obtain rfl:=List.mem_singleton.1 h
      have:=(List.getElem?_eq_some_iff.1 HX.out).2
      rw [this];exact HG.out
    case measure=>simp [intOf];omega
   ·obtain ⟨e1,e2,e3,e4,e5,e6⟩:=hF.alloc (o:=.cells #[.int .i64 x.1,.int .i64 x.2] 45)
    have hv:V=tv (0,0) 1:=by rw [← HV.out,if_neg (fun h=>hg (h.1 x HM.out))]
    obtain ⟨x1,x2⟩:=x
    simp only [tv,fv] at hv
    simp only at c0 c1 e1 e2 e3 e4 e5 e6
    have HW:=Lib.hid hv
    clear hv
    by_cases g1:x1 < 0
    ·go_wp2
     exact Zz results22 yS yj rfl rfl e3 e4 ⟨by rw [HW.out];rfl,(e1.setCell (Nat.le_refl _) _).setCell (Nat.le_refl _) _⟩
    ·by_cases g2:x2 < x1
     ·go_wp2
      exact Zz results22 yS yj rfl rfl e3 e4 ⟨by rw [HW.out];rfl,(e1.setCell (Nat.le_refl _) _).setCell (Nat.le_refl _) _⟩
     ·have g3:9 < x2:=by
       have:¬ (0≤x1∧x1≤x2∧x2≤9):=hg
       omega
      go_wp2
      exact Zz results22 yS yj rfl rfl e3 e4 ⟨by rw [HW.out];rfl,(e1.setCell (Nat.le_refl _) _).setCell (Nat.le_refl _) _⟩
  ·obtain rfl:k=l.length:=by omega
   have hall:∀x∈l,Cnt x:=by have:=HT.out;rwa [List.take_length] at this
   by_cases hp:1≤p∧p≤4
   ·have hv:V=tv (p * ZB l / l.length,p * ZY l / l.length) 0:=by rw [← HV.out,if_pos ⟨hall,hp⟩]
    have hs:=fun W hP=>sums_any l b o c hl (fun x hx=>⟨(hall x hx).1,by have:=hall x hx;have a:=this.2.1;have b:=this.2.2;omega⟩) (fun x hx=>⟨by have:=hall x hx;have a:=this.1;have b:=this.2.1;omega,(hall x hx).2.2⟩) W hP
    have b1:=Js (l:=l) (m:=9) fun x hx=>⟨(hall x hx).1,by have:=hall x hx;have a:=this.2.1;have b:=this.2.2;omega⟩
    have b2:=Jt (l:=l) (m:=9) fun x hx=>⟨by have:=hall x hx;have a:=this.1;have b:=this.2.1;omega,(hall x hx).2.2⟩
    have HS:=Lib.hid (hs wr (fun i x hx=>⟨qb _ hF.1 (hP i x hx).1,qb _ hF.1 (hP i x hx).2⟩))
    have HW:=Lib.hid hv
    clear hs hv hall HT
    generalize ZB l=s1 at *
    generalize ZY l=s2 at *
    go_wp2_with (first | (go_at_call 65;(with_reducible refine (qD _ _ _ _ hp).mono ?_);rintro e w1 ⟨rfl,rfl⟩) | (go_at_call 73;refine HS.out.mono ?_;rintro e w1 ⟨rfl,hB1⟩;obtain ⟨f1,f2,f3,f4,f5,f6⟩:=hF.call hB1))
    have m1:=Int.mul_nonneg (show 0≤p by omega) b1.1
    have m2:=Int.mul_nonneg (show 0≤p by omega) b2.1
    have m3:=Int.mul_le_mul hp.2 (show s1≤36 by omega) b1.1 (by omega)
    have m4:=Int.mul_le_mul hp.2 (show s2≤36 by omega) b2.1 (by omega)
    have q1:IntKind.i64.wrap (p * s1)=p * s1:=IntWalk.i64_in _ (by omega)
    have q2:IntKind.i64.wrap (p * s2)=p * s2:=IntWalk.i64_in _ (by omega)
    go_region
    clear q1 q2
    have d1:=Int.ediv_nonneg m1 (Int.natCast_nonneg l.length)
    have d2:=Int.ediv_nonneg m2 (Int.natCast_nonneg l.length)
    have d3:=Int.ediv_le_self (l.length:Int) m1
    have d4:=Int.ediv_le_self (l.length:Int) m2
    go_wp2
    have hpp:=ZL (.int .i64 (p * s1 / l.length)) (.int .i64 (p * s2 / l.length)) f3 f4
    refine bodyPost_ret (qZ results22 rfl rfl (yZ yS yj hpp.1 hpp.2)) rfl ⟨by rw [HW.out];rfl,?_⟩
    exact ((f1.setCell (Nat.le_refl _) _).setCell (Nat.le_refl _) _).drew
   ·have hv:V=tv (0,0) 1:=by rw [← HV.out,if_neg (fun h=>hp h.2)]
    simp only [tv,fv] at hv
    have HW:=Lib.hid hv
    clear hv hall
    obtain ⟨e1,e2,e3,e4,e5,e6⟩:=hF
    go_wp2_with (go_at_call 65;(with_reducible refine (qU _ _ _ _ hp).mono ?_);rintro e w1 ⟨rfl,rfl⟩)
    exact Zz results22 yS yj rfl rfl e3 e4 ⟨by rw [HW.out];rfl,(e1.setCell (Nat.le_refl _) _).setCell (Nat.le_refl _) _⟩
theorem qbM (l:List (Int×Int)) (a:Option Addr) (c:Nat) (p:Int) (w:World) (hP:1≤l.length→∃b o,a=some ⟨b,o,none⟩∧qE w b o l) :
 Calls qf 22 #[.slice a l.length c,.int .i64 p] w fun e w'=>e=.returned (qaY l p)∧Below w.heap.size w w':=by
 unfold qaY
 by_cases h:1≤l.length∧l.length≤4
 ·rw [if_pos h]
  obtain ⟨b,o,rfl,hp⟩:=hP h.1
  exact qdP l b o c p h.1 h.2 w hp
 ·rw [if_neg h];exact qcB a l.length c p h w
def chN (q:List Int) (i:Nat):Int:=(q[i]?).getD 0
def pkN (l:List (Int×Int)) (q:List Int) (i:Nat):Int:=(l.getD i (0,0)).1+chN q i % ((l.getD i (0,0)).2 - (l.getD i (0,0)).1+1)
def qfJ (l:List (Int×Int)) (q:List Int) (k:Nat):List (Int×Int):=(List.range k).map fun i=>(pkN l q i,pkN l q i)
def oneAt (l:List (Int×Int)) (q:List Int) (m:Nat) (i:Nat):Int×Int:=if i=m then (pkN l q i,(l.getD i (0,0)).2) else l.getD i (0,0)
def oneN (l:List (Int×Int)) (q:List Int) (m k:Nat):List (Int×Int):=(List.range k).map (oneAt l q m)
structure MadeN (l:List (Int×Int)) (q:List Int) (m k:Nat):Prop where
 c1:∀x∈qfJ l q k,Cnt x
 c2:∀x∈oneN l q m k,Cnt x
 same:ZY (qfJ l q k)=ZB (qfJ l q k)
 lo:ZB (l.take k)≤ZB (qfJ l q k)
 hi:ZB (qfJ l q k)≤ZY (l.take k)
 on:ZB (l.take k)≤ZB (oneN l q m k)
 ot:ZY (oneN l q m k)=ZY (l.take k)
end Go.Proofs.Tryz
namespace Go.Proofs.Tryz
open Go Go.Load Go.RowKit Go.Instr Go.Maps
theorem spB:qf.underlying 45=some (.struct (qf.fieldsOf 45)):=by kernel_rfl
theorem hpB:qf.stoodInHeld 45=false:=by kernel_rfl
theorem eqb (d:Nat) (a b a' b':Int) (w:World):(Op.equalIn (d+2) 45 (.agg #[.int .i64 a,.int .i64 b]) (.agg #[.int .i64 a',.int .i64 b'])).run qf w=.ok (a == a' && b == b') w:=by
 rw [run_equalIn_agg w (d+1) 45 _ _ spB hpB]
 have e0:(Op.eqFields (d+1) #[.int .i64 a,.int .i64 b] #[.int .i64 a',.int .i64 b'] (qf.fieldsOf 45).toList).run qf w=(if (!(a == a'))=true then (pure false:Sem Bool) else Op.eqFields (d+1) #[.int .i64 a,.int .i64 b] #[.int .i64 a',.int .i64 b'] (qf.fieldsOf 45).toList.tail).run qf w:=by kernel_rfl
 rw [e0]
 cases h:(a == a') with
 | false=>simp
 | true =>
   have e1:(Op.eqFields (d+1) #[.int .i64 a,.int .i64 b] #[.int .i64 a',.int .i64 b'] (qf.fieldsOf 45).toList.tail).run qf w=(if (!(b == b'))=true then (pure false:Sem Bool) else pure true).run qf w:=by kernel_rfl
   simp only [Bool.not_true,Bool.false_eq_true,if_false]
   rw [e1]
   cases h:(b == b') <;> simp
@[go_sem] theorem eqb_run (a b a' b':Int) (w:World):(Op.equalIn 10000 45 (.agg #[.int .i64 a,.int .i64 b]) (.agg #[.int .i64 a',.int .i64 b'])).run qf w=.ok (a == a' && b == b') w:=eqb 9998 a b a' b' w
@[go_sem] theorem eqlb_run (a b a' b':Int) (w:World):(binOp .eql 45 (.agg #[.int .i64 a,.int .i64 b]) (.agg #[.int .i64 a',.int .i64 b'])).run qf w=.ok (.bool (a == a' && b == b')) w:=by
  rw [run_eql_struct,eqb_run];rfl
theorem hmB:qf.eqGuardType qf.depth 45=false:=by kernel_rfl
@[go_sem] theorem guardb_run (op:BinOp) (p q:Operand) (xs ys:Array Value) (w:World):(eqGuard op 45 p q (.agg xs) (.agg ys)).run qf w=.ok () w:=run_eqGuard_agg w op _ p q xs ys hmB
set_option maxRecDepth 100000 in
theorem qcE (x:Int×Int) (w:World) (h:Cnt x):Calls qf 74 #[.agg #[.int .i64 x.1,.int .i64 x.2],.int .i64 0,.int .i64 9] w fun e w'=>e=.returned (.bool true)∧Below w.heap.size w w':=by
 obtain ⟨h1,h2,h3⟩:=h
 go_enter s74,ntmps74
 go_wp2
 go_ret
 exact ⟨by simp_all,by go_grown⟩
set_option maxRecDepth 100000 in
theorem qdT (x:Int×Int) (w:World) (h:¬ Cnt x):Calls qf 74 #[.agg #[.int .i64 x.1,.int .i64 x.2],.int .i64 0,.int .i64 9] w fun e w'=>e=.returned (.bool false)∧Below w.heap.size w w':=by
 obtain ⟨x1,x2⟩:=x
 have h':¬ (0≤x1∧x1≤x2∧x2≤9):=h
 by_cases h2:x1≤x2
 ·by_cases h1:0≤x1
  ·have h3:¬ x2≤9:=by omega
   go_enter s74,ntmps74
   go_wp2
   go_ret
   exact ⟨by simp_all,by go_grown⟩
  ·go_enter s74,ntmps74
   go_wp2
   go_ret
   exact ⟨by simp_all,by go_grown⟩
 ·go_enter s74,ntmps74
  go_wp2
  go_ret
  exact ⟨by simp_all,by go_grown⟩
end Go.Proofs.Tryz
namespace Go.Proofs.Tryz
open Go Go.Load Go.RowKit
theorem qbr (a:Option Addr) (n c:Nat) (p:Int) (h:¬ (1≤n∧n≤4)) (w:World):Calls qf 23 #[.slice a n c,.int .i64 p] w fun e w'=>e=.returned (tv (0,0) 2)∧Below w.heap.size w w':=by
 simp only [tv,fv] at *
 go_enter s23,ntmps23
 go_wp2_with (go_at_call 51;(with_reducible refine (ZR _ _ _ _ (by omega)).mono ?_);rintro e w1 ⟨rfl,rfl⟩)
 go_returns
 exact ⟨rfl,by go_grown⟩
set_option maxHeartbeats 4000000 in
set_option maxRecDepth 100000 in
theorem qdr (l:List (Int×Int)) (b o c:Nat) (p:Int) (hl1:1≤l.length) (hl:l.length≤4) (w:World) (hP:qE w b o l) :
 Calls qf 23 #[.slice (some ⟨b,o,none⟩) l.length c,.int .i64 p] w fun e w'=>e=.returned (if (∀x∈l,Cnt x)∧1≤p∧p≤4 then tv (p * ZB l / l.length,p * ZY l / l.length) 0 else tv (0,0) 1)∧Below w.heap.size w w':=by
 obtain ⟨V,hV⟩:∃V,(if (∀x∈l,Cnt x)∧1≤p∧p≤4 then tv (p * ZB l / l.length,p * ZY l / l.length) 0 else tv (0,0) 1)=V:=⟨_,rfl⟩
 rw [hV]
 have HV:=Lib.hid hV
 clear hV
 go_enter s23,ntmps23
 go_upto_region 4 with (go_at_call 51;(with_reducible refine (yJ _ _ _ _ (by omega)).mono ?_);rintro e w1 ⟨rfl,rfl⟩)
 have hF0:XM w (w.alloc (.cells #[.int .i64 0,.int .i64 0] 45)):=⟨by go_grown,by simp,by go_cell,by go_cell,by go_cell,by go_cell⟩
 go_wp2
 go_loopw [7,8,9] (fun x y i wr=>∃k:Nat,i=.int .i64 k∧k≤l.length∧x=.int .i64 (ZB (l.take k))∧y=.int .i64 (ZY (l.take k))∧XM w wr∧Hid (∀x∈l.take k,Cnt x)) (fun _ _ i _=>l.length - (intOf i).toNat)
 case atStart=>exact ⟨0,rfl,Nat.zero_le _,rfl,rfl,hF0,Lib.hid (by simp)⟩
 case round =>
  obtain ⟨k,rfl,hk,rfl,rfl,hF,HT⟩:=hrel
  clear hF0
  by_cases hlt:k < l.length
  ·obtain ⟨x,hx⟩:∃x,l[k]? = some x:=⟨l[k],by simp [hlt]⟩
   have hm:x∈l:=List.mem_of_getElem? hx
   obtain ⟨c0,c1⟩:=hP k x hx
   have c0:=qb _ hF.1 c0
   have c1:=qb _ hF.1 c1
   have n1:=qax hx
   have n2:=qay hx
   have b1:=Js (l:=l.take k) (m:=9) fun y hy=>by have:=HT.out y hy;exact ⟨this.1,Int.le_trans this.2.1 this.2.2⟩
   have b2:=Jt (l:=l.take k) (m:=9) fun y hy=>by have:=HT.out y hy;exact ⟨Int.le_trans this.1 this.2.1,this.2.2⟩
   rw [List.length_take,Nat.min_eq_left hk] at b1 b2
   have N1:=Lib.hid n1
   have N2:=Lib.hid n2
   have HX:=Lib.hid hx
   have HM:=Lib.hid hm
   have j1:(k:Int) < (l.length:Int):=by omega
   have j2:(0:Int)≤(k:Int):=Int.natCast_nonneg k
   clear hx hm hP n1 n2
   generalize ZB (l.take k)=s1 at *
   generalize ZY (l.take k)=s2 at *
   by_cases hg:Cnt x
   ·have hin:=fun W=>qcE x W hg
    have HG:=Lib.hid hg
    obtain ⟨g1,g2,g3⟩:=hg
    obtain ⟨x1,x2⟩:=x
    simp only at g1 g2 g3 c0 c1 hin N1 N2
    have e1:IntKind.i64.wrap (s1+x1)=s1+x1:=IntWalk.i64_in _ (by omega)
    have e2:IntKind.i64.wrap (s2+x2)=s2+x2:=IntWalk.i64_in _ (by omega)
    go_upto_region 10 with (go_at_call 74;(with_reducible refine (hin _).mono ?_);rintro e w1 ⟨rfl,hB⟩;replace hF:=hF.call hB;replace c0:=qb _ hB c0;replace c1:=qb _ hB c1)
    go_quiet (fail)
    clear e1 e2 hin
    go_wp2
    go_roundw
    case rel =>
     refine ⟨k+1,rfl,by omega,by rw [N1.out],by rw [N2.out],⟨below_drewN hF.1 _,hF.2⟩,Lib.hid ?_⟩
     rw [List.take_succ_eq_append_getElem hlt]
     intro y hy
     rcases List.mem_append.1 hy with h | h
     ·exact HT.out y h
     ·obtain rfl:=List.mem_singleton.1 h
      have:=(List.getElem?_eq_some_iff.1 HX.out).2
      rw [this];exact HG.out
    case measure=>simp [intOf];omega
   ·have hin:=fun W=>qdT x W hg
    have hv:V=tv (0,0) 1:=by rw [← HV.out,if_neg (fun h=>hg (h.1 x HM.out))]
    obtain ⟨x1,x2⟩:=x
    simp only [tv,fv] at hv
    simp only at c0 c1 hin
    have HW:=Lib.hid hv
    clear hv hg
    go_wp2_with (go_at_call 74;(with_reducible refine (hin _).mono ?_);rintro e w1 ⟨rfl,hB⟩;obtain ⟨e1,e2,e3,e4,e5,e6⟩:=hF.call hB)
    exact Zz results23 yS yj rfl rfl e3 e4 ⟨by rw [HW.out];rfl,(e1.setCell (Nat.le_refl _) _).setCell (Nat.le_refl _) _⟩
  ·obtain rfl:k=l.length:=by omega
   have hall:∀x∈l,Cnt x:=by have:=HT.out;rwa [List.take_length] at this
   rw [List.take_length]
   by_cases hp:1≤p∧p≤4
   ·have hv:V=tv (p * ZB l / l.length,p * ZY l / l.length) 0:=by rw [← HV.out,if_pos ⟨hall,hp⟩]
    have b1:=Js (l:=l) (m:=9) fun x hx=>⟨(hall x hx).1,by have:=hall x hx;have a:=this.2.1;have b:=this.2.2;omega⟩
    have b2:=Jt (l:=l) (m:=9) fun x hx=>⟨by have:=hall x hx;have a:=this.1;have b:=this.2.1;omega,(hall x hx).2.2⟩
    have HW:=Lib.hid hv
    obtain ⟨f1,f2,f3,f4,f5,f6⟩:=hF
    clear hv hall HT
    generalize ZB l=s1 at *
    generalize ZY l=s2 at *
    have m1:=Int.mul_nonneg (show 0≤p by omega) b1.1
    have m2:=Int.mul_nonneg (show 0≤p by omega) b2.1
    have m3:=Int.mul_le_mul hp.2 (show s1≤36 by omega) b1.1 (by omega)
    have m4:=Int.mul_le_mul hp.2 (show s2≤36 by omega) b2.1 (by omega)
    have q1:IntKind.i64.wrap (p * s1)=p * s1:=IntWalk.i64_in _ (by omega)
    have q2:IntKind.i64.wrap (p * s2)=p * s2:=IntWalk.i64_in _ (by omega)
    go_upto_region 13 with (go_at_call 51;(with_reducible refine (yJ _ _ _ _ hp).mono ?_);rintro e w1 ⟨rfl,rfl⟩)
    go_region
    clear q1 q2
    have d1:=Int.ediv_nonneg m1 (Int.natCast_nonneg l.length)
    have d2:=Int.ediv_nonneg m2 (Int.natCast_nonneg l.length)
    have d3:=Int.ediv_le_self (l.length:Int) m1
    have d4:=Int.ediv_le_self (l.length:Int) m2
    go_wp2
    have hpp:=ZL (.int .i64 (p * s1 / l.length)) (.int .i64 (p * s2 / l.length)) f3 f4
    refine bodyPost_ret (qZ results23 rfl rfl (yZ yS yj hpp.1 hpp.2)) rfl ⟨by rw [HW.out];rfl,?_⟩
    exact ((f1.setCell (Nat.le_refl _) _).setCell (Nat.le_refl _) _).drew
   ·have hv:V=tv (0,0) 1:=by rw [← HV.out,if_neg (fun h=>hp h.2)]
    simp only [tv,fv] at hv
    have HW:=Lib.hid hv
    clear hv hall HT
    obtain ⟨e1,e2,e3,e4,e5,e6⟩:=hF
    go_wp2_with (go_at_call 51;(with_reducible refine (ZR _ _ _ _ hp).mono ?_);rintro e w1 ⟨rfl,rfl⟩)
    exact Zz results23 yS yj rfl rfl e3 e4 ⟨by rw [HW.out];rfl,(e1.setCell (Nat.le_refl _) _).setCell (Nat.le_refl _) _⟩
theorem qfE (l:List (Int×Int)) (a:Option Addr) (c:Nat) (p:Int) (w:World) (hP:1≤l.length→∃b o,a=some ⟨b,o,none⟩∧qE w b o l) :
 Calls qf 23 #[.slice a l.length c,.int .i64 p] w fun e w'=>e=.returned (qaY l p)∧Below w.heap.size w w':=by
 unfold qaY
 by_cases h:1≤l.length∧l.length≤4
 ·rw [if_pos h]
  obtain ⟨b,o,rfl,hp⟩:=hP h.1
  exact qdr l b o c p h.1 h.2 w hp
 ·rw [if_neg h];exact qbr a l.length c p h w
end Go.Proofs.Tryz
