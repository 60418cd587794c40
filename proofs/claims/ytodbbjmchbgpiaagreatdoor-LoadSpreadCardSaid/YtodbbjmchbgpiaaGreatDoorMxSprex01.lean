/-
  Lemmas about the program and the machine (B8 to B27), upon which the last text of this claim rests; no condition.
-/
import Derived.Test.YtodbbjmchbgpiaaGreatDoorM22
set_option linter.unusedSimpArgs false
set_option linter.unusedVariables false
namespace Go.Proofs.Tryz
open Go Go.Load Go.RowKit
theorem wrap_in (a:Int) (h:0≤a∧a≤255):IntKind.i64.wrap a=a:=by rw [IntKind.wrap_i64];omega
def JJ (g:Grp) (h:Nat):Value:=if g.trunks=7 then .tuple #[fv (0,1),.bool false] else .tuple #[fv (qp g h),.bool true]
abbrev RG (W:World) (zg tb q:Nat) (n:Int) (sl:Value) (a:Int×Int) (X:World):Prop :=
 X.cell? ⟨zg,1,none⟩=some (.int .i64 n)∧X.cell? ⟨zg,2,none⟩=some sl∧X.cell? ⟨tb,q,none⟩=some (.int .i64 a.1)∧X.cell? ⟨tb,q+1,none⟩=some (.int .i64 a.2)∧Below W.heap.size W X
section
variable {W X Y:World} {zg tb q:Nat} {n:Int} {sl:Value} {a:Int×Int}
theorem RG.call (h:RG W zg tb q n sl a X) (hB:Below X.heap.size X Y):RG W zg tb q n sl a Y:=⟨qb _ hB h.1,qb _ hB h.2.1,qb _ hB h.2.2.1,qb _ hB h.2.2.2.1,bcl h.2.2.2.2 hB⟩
theorem RG.drew (h:RG W zg tb q n sl a X):RG W zg tb q n sl a X.drew:=h.call (Below.refl _ X).drew
theorem RG.bel (h:RG W zg tb q n sl a X):Below W.heap.size W X:=h.2.2.2.2
theorem RG.alloc (h:RG W zg tb q n sl a X) (o:Obj):RG W zg tb q n sl a (X.alloc o):=h.call ((Below.refl _ X).alloc (Nat.le_refl _) _)
theorem RG.set (h:RG W zg tb q n sl a X) (h1:zg < W.heap.size) (h2:tb < W.heap.size) {b i:Nat} (hb:W.heap.size≤b) (v:Value):RG W zg tb q n sl a (X.setCell ⟨b,i,none⟩ v) :=
 ⟨qc (by simp <;> omega) h.1,qc (by simp <;> omega) h.2.1,qc (by simp <;> omega) h.2.2.1,qc (by simp <;> omega) h.2.2.2.1,h.2.2.2.2.setCell hb _⟩
end
set_option maxHeartbeats 8000000 in
set_option maxRecDepth 100000 in
theorem qfv (b o i ho tb tq n t c m gl gc tc:Nat) (lim:Int×Int) (gr hr:Int) (nm:ByteArray) (w:World) (hGl:Globs w)
 (c0:w.cell? ⟨b,o+i * 3,none⟩=some (.string nm)) (c1:w.cell? ⟨b,o+i * 3+1,none⟩=some (.int .i64 n)) (c2:w.cell? ⟨b,o+i * 3+2,none⟩=some (.slice (some ⟨tb,tq,none⟩) m tc))
 (p0:w.cell? ⟨tb,tq+ho * 2,none⟩=some (.int .i64 t)) (p1:w.cell? ⟨tb,tq+ho * 2+1,none⟩=some (.int .i64 c)) (hi:i < gl) (hgc:gl≤20) (hh:ho < m) (hm:m≤20) (ht:t≤12) (hc:1≤c∧c≤4) (hn:n≤6) :
 Calls qg 18 #[.agg #[.int .i64 lim.1,.int .i64 lim.2,.int .i64 gr,.int .i64 hr,.slice (some ⟨b,o,none⟩) gl gc],.int .i64 i,.int .i64 ho] w fun e w'=>e=.returned (.tuple #[fv (qba t c n),.bool true])∧Below w.heap.size w w':=by
 have l0:b < w.heap.size:=lt_of_cell c0
 have l1:tb < w.heap.size:=lt_of_cell p0
 have n6:IntKind.i64.wrap ((n:Int)+1)=(n:Int)+1:=wrap_in _ ⟨Int.add_nonneg (Int.natCast_nonneg n) (by decide),by have:=Int.ofNat_le.2 hn;exact Int.le_trans (Int.add_le_add_right this 1) (by decide)⟩
 have h7b:¬ ((7:Int)≤(n:Int)):=by omega
 have e1:=Xq (t:=t) (b:=c) (n:=n) ht hc (by omega)
 have e2:=Xq (t:=t) (b:=c) (n:=n+1) ht hc (by omega)
 have hf:=ZT ht hc hn
 unfold qgl at hf
 simp only [Bool.and_eq_true,decide_eq_true_eq,Bool.not_eq_true',beq_iff_eq] at hf
 obtain ⟨⟨⟨⟨⟨⟨⟨f1,f2⟩,k1⟩,k2⟩,a1⟩,⟨⟨m1,m2⟩,m3⟩⟩,sv⟩,f3⟩:=hf
 have sd:qba t c n=qei ((zl t c n).1 * (zl t c (n+1)).2 - (zl t c (n+1)).1 * (zl t c n).2).toNat ((zl t c n).2 * (zl t c (n+1)).2).toNat:=rfl
 generalize qba t c n=u at *
 generalize zl t c n=x at *
 generalize zl t c (n+1)=y at *
 obtain ⟨u1,u2⟩:=u
 obtain ⟨x1,x2⟩:=x
 obtain ⟨y1,y2⟩:=y
 rw [show ((n+1:Nat):Int)=(n:Int)+1 from rfl] at e2
 have hl1:=fun W=>Yq n ((t:Int),(c:Int)) W
 have hl2:=fun W=>Yq ((n:Int)+1) ((t:Int),(c:Int)) W
 rw [e1] at hl1
 rw [e2] at hl2
 have hk1:=k1
 have hk2:=k2
 simp only [okS] at hk1 hk2 m1 m2 m3
 have hfx:∀W,Calls qg 13 #[fv (x1,x2)] W fun e w'=>e=.returned (.bool true)∧Below W.heap.size W w':=fun W=>f1▸JA (x1,x2) W hk1.1 hk1.2.2.1 (by show x1 < _;omega) (by show x2 < _;omega)
 have hfy:∀W,Calls qg 13 #[fv (y1,y2)] W fun e w'=>e=.returned (.bool true)∧Below W.heap.size W w':=fun W=>f2▸JA (y1,y2) W hk2.1 hk2.2.2.1 (by show y1 < _;omega) (by show y2 < _;omega)
 have hle:=fun W=>qct (x1,x2) (y1,y2) W hk1.1 hk1.2.2.1 hk2.1 hk2.2.2.1 (by show x1 < _;omega) (by show x2 < _;omega) (by show y1 < _;omega) (by show y2 < _;omega)
 rw [a1] at hle
 have hmi:=fun W=>qet (x1,x2) (y1,y2) W hk1.1 hk1.2.2.1 hk2.1 hk2.2.2.1 m1 m2 m3
 simp only [← sd] at hmi
 have xb:¬ ((268435456:Int) < x2):=by omega
 have yb:¬ ((8589934592:Int) < y2):=by omega
 have wn:wrap64 ((n:Int)+1)=(n:Int)+1:=by unfold wrap64;omega
 simp only [tv,fv] at hl1 hl2 hfx hfy hle hmi ⊢
 clear e1 e2 f1 f2 k1 k2 a1 m1 m2 m3 sv f3 sd hk1 hk2
 go_enter s18,ntmps18
 go_wp2
 obtain ⟨W1,hW1⟩:∃W1,((w.alloc (Obj.cells #[.int .i64 lim.1,.int .i64 lim.2,.int .i64 gr,.int .i64 hr,.slice (some ⟨b,o,none⟩) gl gc] 26)).alloc (Obj.cells #[.int .i64 0,.int .i64 0] 23)).alloc (Obj.cells #[.string nm,.int .i64 n,.slice (some ⟨tb,tq,none⟩) m tc] 36)=W1:=⟨_,rfl⟩
 have g1:W1.cell? ⟨w.heap.size+1+1,1,none⟩=some (.int .i64 n):=by subst hW1;go_cell
 have g2:W1.cell? ⟨w.heap.size+1+1,2,none⟩=some (.slice (some ⟨tb,tq,none⟩) m tc):=by subst hW1;go_cell
 have r0:W1.cell? ⟨w.heap.size+1,0,none⟩=some (.int .i64 0):=by subst hW1;go_cell
 have r1:W1.cell? ⟨w.heap.size+1,1,none⟩=some (.int .i64 0):=by subst hW1;go_cell
 have r2:W1.frozen? ⟨w.heap.size+1,0,none⟩=false:=by subst hW1;go_cell
 have r3:W1.frozen? ⟨w.heap.size+1,1,none⟩=false:=by subst hW1;go_cell
 have hBW:Below w.heap.size w W1:=by subst hW1;go_grown
 have p0:=qb _ hBW p0
 have p1:=qb _ hBW p1
 rw [hW1]
 clear hW1 c0 c1 c2
 have zz:w.heap.size≤w.heap.size+1:=by omega
 generalize w.heap.size+1+1=zg at *
 generalize w.heap.size+1=zr at *
 have z1:zg < W1.heap.size:=lt_of_cell g1
 have z2:zr < W1.heap.size:=lt_of_cell r0
 have z3:tb < W1.heap.size:=lt_of_cell p0
 have hS:RG W1 zg tb (tq+ho * 2) n (.slice (some ⟨tb,tq,none⟩) m tc) ((t:Int),(c:Int)) W1:=⟨g1,g2,p0,p1,Below.refl _ _⟩
 have hK:KSt W1 W1 []:=⟨fun p hp=>absurd hp (by simp),hGl.keep hBW,Below.refl _ _⟩
 go_cut [9,10] from 22 to 32 (fun s9 s10 wx=>∃z,s9=.pointer (some ⟨z,0,none⟩)∧s10=.int .i64 0∧KSt W1 wx [(⟨z,0,none⟩,.int .i64 x1),(⟨z,1,none⟩,.int .i64 x2)])
 case first =>
  as_aux_lemma =>
   clear g1 g2 p0 p1 r0 r1
   go_region_held3 (RG W1 zg tb (tq+ho * 2) n (.slice (some ⟨tb,tq,none⟩) m tc) ((t:Int),(c:Int))) (first | exact RG.drew hS | exact hX | exact RG.alloc hX _ | exact (RG.alloc hS _).drew | exact (RG.alloc hS _).drew.drew | exact RG.set (RG.set hX z1 z3 (Nat.le_refl _) _) z1 z3 (Nat.le_refl _) _) (first | (go_at_call 12;(with_reducible refine (hl1 _).mono ?_);rintro e wy ⟨rfl,hB⟩;have hX:=RG.call (by assumption) hB;(try (have c0:wy.cell? ⟨W1.heap.size,0,none⟩=some (.int .i64 0):=qb _ hB (qm W1 #[.int .i64 0,.int .i64 0] 23 0 (by decide));have c1:wy.cell? ⟨W1.heap.size,1,none⟩=some (.int .i64 0):=qb _ hB (qm W1 #[.int .i64 0,.int .i64 0] 23 1 (by decide));have q0:wy.frozen? ⟨W1.heap.size,0,none⟩=false:=qd _ hB (qm W1 #[.int .i64 0,.int .i64 0] 23 0 (by decide)) (qD W1 #[.int .i64 0,.int .i64 0] 23 0 (by decide));have q1:wy.frozen? ⟨W1.heap.size,1,none⟩=false:=qd _ hB (qm W1 #[.int .i64 0,.int .i64 0] 23 1 (by decide)) (qD W1 #[.int .i64 0,.int .i64 0] 23 1 (by decide))))))
   all_goals (go_wp2_with fail;go_meet;first | exact ⟨_,rfl,rfl,(hK.call (RG.bel hX)).box2 _ _ _⟩ | exact ⟨_,rfl,rfl,KSt.set2 hK (RG.bel hX) c0 c1 _ _⟩)
 case rest =>
  obtain ⟨z,rfl,rfl,h⟩:=hcut
  go_upto_region 5 with fail
  have g1':=qb _ h.bw g1
  have g2':=qb _ h.bw g2
  have p0':=qb _ h.bw p0
  have p1':=qb _ h.bw p1
  have y1':=Nat.lt_of_lt_of_le z1 h.bw.size
  have y3':=Nat.lt_of_lt_of_le z3 h.bw.size
  have hS2:RG wc zg tb (tq+ho * 2) n (.slice (some ⟨tb,tq,none⟩) m tc) ((t:Int),(c:Int)) wc:=⟨g1',g2',p0',p1',Below.refl _ _⟩
  go_cut [11,12] from 33 to 44 (fun s11 s12 wx=>∃zy,s11=.pointer (some ⟨zy,0,none⟩)∧s12=.int .i64 0∧KSt W1 wx [(⟨zy,0,none⟩,.int .i64 y1),(⟨zy,1,none⟩,.int .i64 y2),(⟨z,0,none⟩,.int .i64 x1),(⟨z,1,none⟩,.int .i64 x2)])
  case first =>
   as_aux_lemma =>
    clear g1 g2 p0 p1 r0 r1 g1' g2' p0' p1' hS hK z1 z2 z3
    go_region_held3 (RG wc zg tb (tq+ho * 2) n (.slice (some ⟨tb,tq,none⟩) m tc) ((t:Int),(c:Int))) (first | exact RG.drew hS2 | exact hX | exact RG.alloc hX _ | exact (RG.alloc hS2 _).drew | exact (RG.alloc hS2 _).drew.drew | exact RG.set (RG.set hX y1' y3' (Nat.le_refl _) _) y1' y3' (Nat.le_refl _) _) (first | (go_at_call 12;(with_reducible refine (hl2 _).mono ?_);rintro e wy ⟨rfl,hB⟩;have hX:=RG.call (by assumption) hB;(try (have c0:wy.cell? ⟨wc.heap.size,0,none⟩=some (.int .i64 0):=qb _ hB (qm wc #[.int .i64 0,.int .i64 0] 23 0 (by decide));have c1:wy.cell? ⟨wc.heap.size,1,none⟩=some (.int .i64 0):=qb _ hB (qm wc #[.int .i64 0,.int .i64 0] 23 1 (by decide));have q0:wy.frozen? ⟨wc.heap.size,0,none⟩=false:=qd _ hB (qm wc #[.int .i64 0,.int .i64 0] 23 0 (by decide)) (qD wc #[.int .i64 0,.int .i64 0] 23 0 (by decide));have q1:wy.frozen? ⟨wc.heap.size,1,none⟩=false:=qd _ hB (qm wc #[.int .i64 0,.int .i64 0] 23 1 (by decide)) (qD wc #[.int .i64 0,.int .i64 0] 23 1 (by decide))))))
    all_goals (go_wp2_with fail;go_meet;first | exact ⟨_,rfl,rfl,(h.call (RG.bel hX)).box2 _ _ _⟩ | exact ⟨_,rfl,rfl,KSt.set2 h (RG.bel hX) c0 c1 _ _⟩)
  case rest =>
   clear g1' g2' p0' p1' hS2 hS hK g1 g2 p0 p1 h n6
   obtain ⟨zy,rfl,rfl,h⟩:=hcut
   have ka:=h.cell (⟨z,0,none⟩,.int .i64 x1) (by simp)
   have kb:=h.cell (⟨z,1,none⟩,.int .i64 x2) (by simp)
   have kc:=h.cell (⟨zy,0,none⟩,.int .i64 y1) (by simp)
   have kd:=h.cell (⟨zy,1,none⟩,.int .i64 y2) (by simp)
   simp only at ka kb kc kd
   go_wp2_with (first | (go_at_call 13;(with_reducible refine (hfx _).mono ?_);rintro e w2 ⟨rfl,hB⟩;replace h:=h.call hB;clear hB ka kb kc kd;have ka:=h.cell (⟨z,0,none⟩,.int .i64 x1) (by simp);have kb:=h.cell (⟨z,1,none⟩,.int .i64 x2) (by simp);have kc:=h.cell (⟨zy,0,none⟩,.int .i64 y1) (by simp);have kd:=h.cell (⟨zy,1,none⟩,.int .i64 y2) (by simp);simp only at ka kb kc kd) | (go_at_call 13;(with_reducible refine (hfy _).mono ?_);rintro e w2 ⟨rfl,hB⟩;replace h:=h.call hB;clear hB ka kb kc kd;have ka:=h.cell (⟨z,0,none⟩,.int .i64 x1) (by simp);have kb:=h.cell (⟨z,1,none⟩,.int .i64 x2) (by simp);have kc:=h.cell (⟨zy,0,none⟩,.int .i64 y1) (by simp);have kd:=h.cell (⟨zy,1,none⟩,.int .i64 y2) (by simp);simp only at ka kb kc kd) | (go_at_call 20;(with_reducible refine (hle _).mono ?_);rintro e w2 ⟨rfl,hB⟩;replace h:=h.call hB;clear hB ka kb kc kd;have ka:=h.cell (⟨z,0,none⟩,.int .i64 x1) (by simp);have kb:=h.cell (⟨z,1,none⟩,.int .i64 x2) (by simp);have kc:=h.cell (⟨zy,0,none⟩,.int .i64 y1) (by simp);have kd:=h.cell (⟨zy,1,none⟩,.int .i64 y2) (by simp);simp only at ka kb kc kd) | (go_at_call 68;(with_reducible refine (hmi _).mono ?_);rintro e w2 ⟨rfl,hB⟩;replace h:=h.call hB;clear hB ka kb kc kd;have d0:=qb _ h.bw r0;have d1:=qb _ h.bw r1;have d2:=qd _ h.bw r0 r2;have d3:=qd _ h.bw r1 r3))
   have hp:=ZN (.int .i64 u1) (.int .i64 u2) d0 d1
   refine bodyPost_ret (qY results18 rfl rfl (yR zo qU hp.1 hp.2)) rfl ⟨rfl,?_⟩
   exact ((bcl hBW h.bw).setCell zz _).setCell zz _
set_option maxHeartbeats 8000000 in
set_option maxRecDepth 100000 in
theorem qdK (b o i h gl gc m tc:Nat) (ta:Option Addr) (lim:Int×Int) (gr hr:Int) (nm:ByteArray) (w:World)
 (c0:w.cell? ⟨b,o+i * 3,none⟩=some (.string nm)) (c1:w.cell? ⟨b,o+i * 3+1,none⟩=some (.int .i64 7)) (c2:w.cell? ⟨b,o+i * 3+2,none⟩=some (.slice ta m tc)) (hi:i < gl) (hgc:gl≤20) :
 Calls qg 18 #[.agg #[.int .i64 lim.1,.int .i64 lim.2,.int .i64 gr,.int .i64 hr,.slice (some ⟨b,o,none⟩) gl gc],.int .i64 i,.int .i64 h] w fun e w'=>e=.returned (.tuple #[fv (0,1),.bool false])∧Below w.heap.size w w':=by
 have l0:b < w.heap.size:=lt_of_cell c0
 have hof:=fun W=>qbO 0 1 W
 simp only [fv] at hof ⊢
 go_enter s18,ntmps18
 go_wp2_with (go_at_call 42;(with_reducible refine (hof _).mono ?_);rintro e w1 ⟨rfl,hB⟩;have z0:=hB.size;have d0:=qb ⟨w.heap.size+1,0,none⟩ hB (v:=.int .i64 0) (by go_cell);have d1:=qb ⟨w.heap.size+1,1,none⟩ hB (v:=.int .i64 0) (by go_cell);have f0:=qd ⟨w.heap.size+1,0,none⟩ hB (v:=.int .i64 0) (by go_cell) (by go_cell);have f1:=qd ⟨w.heap.size+1,1,none⟩ hB (v:=.int .i64 0) (by go_cell) (by go_cell))
 have hp:=ZN (.int .i64 0) (.int .i64 1) d0 d1
 refine bodyPost_ret (qY results18 rfl rfl (yR zo qU hp.1 hp.2)) rfl ⟨rfl,?_⟩
 exact ((bcl (w:=w) (by go_grown) hB).setCell (by simp <;> omega) _).setCell (by simp <;> omega) _
theorem XT (B:Bk) (i h:Nat) (g:Grp) (hg:B.gs[i]? = some g) (hV:Valid B) (hh:(h:Int) < B.hours) (w:World) (hb:BookAt w B) (hGl:Globs w) :
 Calls qg 18 #[bv B,.int .i64 i,.int .i64 h] w fun e w'=>e=.returned (JJ g h)∧Below w.heap.size w w':=by
 have hm:g∈B.gs:=List.mem_of_getElem? hg
 have hG:=hV.grp g hm
 have hi:i < B.gs.length:=(List.getElem?_eq_some_iff.1 hg).1
 obtain ⟨b,o,hga,hcs⟩:=hb.row hV.len1
 obtain ⟨c0,c1,c2⟩:=hcs i g hg
 have hlt:h < g.traffic.length:=by have:=hG.len;omega
 obtain ⟨tb,tq,hta,hps⟩:=hb.traf g hm (by omega)
 obtain ⟨x,hx⟩:∃x,g.traffic[h]? = some x:=⟨g.traffic[h],List.getElem?_eq_getElem hlt⟩
 obtain ⟨p0,p1⟩:=hps h x hx
 have hT:=hG.traf x (List.mem_of_getElem? hx)
 have hS:qp g h=xV (low x.1 x.2) g.trunks.toNat:=by unfold qp;rw [List.getD_eq_getElem?_getD,hx];rfl
 have t0:=hG.tr0
 have t7:=hG.tr7
 have hsm:=hb.small
 unfold JJ
 unfold bv
 rw [hga]
 by_cases h7:g.trunks=7
 ·rw [if_pos h7]
  rw [h7] at c1
  exact qdK b o i h B.gs.length B.gc g.traffic.length g.tc g.ta B.lim B.growth B.hours g.name w c0 c1 c2 hi hsm.1
 ·rw [if_neg h7,hS]
  obtain ⟨n,en⟩:=Int.eq_ofNat_of_zero_le t0
  obtain ⟨t,et⟩:=Int.eq_ofNat_of_zero_le hT.1.1
  obtain ⟨c,ec⟩:=Int.eq_ofNat_of_zero_le (show 0≤x.2 by have:=hT.2.1;omega)
  have hT1:=hT.1.2
  have hT2:=hT.2
  rw [en] at c1
  rw [et] at p0
  rw [ec] at p1
  rw [hta] at c2
  have hh:=qfv b o i h tb tq n t c g.traffic.length B.gs.length B.gc g.tc B.lim B.growth B.hours g.name w hGl c0 c1 c2 p0 p1 hi hsm.1 hlt (hsm.2 g hm).1 (by omega) ⟨by omega,by omega⟩ (by omega)
  have hf:=ZT (t:=t) (b:=c) (n:=n) (by omega) ⟨by omega,by omega⟩ (by omega)
  unfold qgl at hf
  simp only [Bool.and_eq_true,decide_eq_true_eq,Bool.not_eq_true',beq_iff_eq] at hf
  rw [hf.1.2] at hh
  rw [en,et,ec]
  exact hh
def lessB (t b n:Nat):Bool:=!above (xV (low (t:Int) (b:Int)) (n+1)) (xV (low (t:Int) (b:Int)) n)
theorem less_all:((List.range 13).all fun t=>(List.range 4).all fun b=>(List.range 6).all fun n=>lessB t (b+1) n)=true:=by decide +kernel
theorem qdG {t b n:Nat} (ht:t≤12) (hb:1≤b∧b≤4) (hn:n≤5):lessB t b n=true:=by
 have k:=yo (yo (yo less_all (show t < 13 by omega)) (show b - 1 < 4 by omega)) (show n < 6 by omega)
 rwa [show b - 1+1=b by omega] at k
theorem QS {g x:Grp} (h:Nat) (e1:g.traffic=x.traffic) (e2:g.trunks=x.trunks):qp g h=qp x h:=by
 unfold qp
 rw [e1,e2]
theorem grp_less {B:Bk} (hV:Valid B) {h:Nat} (hh:(h:Int) < B.hours) {g:Grp} (hg:g∈B.gs) (h6:g.trunks≤5):above (qp { g with trunks:=g.trunks+1 } h) (qp g h)=false:=by
 obtain ⟨t,b,n,hx,ht,hb,hn,h7,_⟩:=jG hV hh hg
 have k:=qdG (n:=n) ht hb (by omega)
 unfold lessB at k
 have e:g.traffic.getD h (0,1)=((t:Int),(b:Int)):=by rw [List.getD_eq_getElem?_getD,hx];rfl
 unfold qp
 simp only [e,hn]
 rw [show ((n:Int)+1).toNat=n+1 by omega,Int.toNat_natCast]
 simpa using k
theorem qcA {l:List Grp} {k:Nat} {x:Grp} (hx:l[k]? = some x):xC l (k:Int)=yL l k (x.trunks+1):=by
 unfold xC
 rw [if_neg (by omega),Int.toNat_natCast,hx,jL hx]
def QY (h:Nat) (l:List Grp):Nat→List Grp
 | 0=>l
 | n+1=>xC (QY h l n) (yz h (QY h l n))
theorem Jc (h:Nat) (l:List Grp):∀n,QY h l (n+1)=QY h (xC l (yz h l)) n
 | 0=>rfl
 | n+1=>by rw [QY,Jc h l n,← QY]
theorem Jd {h:Nat} {l:List Grp} (e:yz h l=-1):∀n,QY h l n=l
 | 0=>rfl
 | n+1=>by rw [QY,Jd e n,e];rfl
theorem qcK (h:Nat):∀(n:Nat) (l:List Grp) (i:Nat),i < n→(YP n (ze h n l))[i]? = some (yz h (QY h l i))
 | 0,_,_,hi=>absurd hi (Nat.not_lt_zero _)
 | n+1,l,i,hi=>by
   unfold YP
   rw [ze]
   split
   ·rename_i e
    rw [Jd e,e,List.nil_append,List.length_nil,Nat.sub_zero,List.getElem?_replicate,if_pos hi]
   ·cases i with
    | zero=>rfl
    | succ i =>
      have:=qcK h n (xC l (yz h l)) i (by omega)
      unfold YP at this
      rw [List.cons_append,List.getElem?_cons_succ,List.length_cons,Nat.add_sub_add_right,this,Jc]
theorem fill_len (n:Nat) (L:List Int) (h:L.length≤n):(YP n L).length=n:=by
 unfold YP
 rw [List.length_append,List.length_replicate]
 omega
theorem qap {B:Bk} (hV:Valid B) {h:Nat} (hh:(h:Int) < B.hours):(yz h B.gs=-1∧∀g∈B.gs,g.trunks=7)∨∃(k:Nat) (x:Grp),yz h B.gs=(k:Int)∧B.gs[k]? = some x∧x.trunks≠7∧∀(j:Nat) (g':Grp),B.gs[j]? = some g'→g'.trunks≠7→above (qp g' h) (qp x h)=false:=by
 have hP:=qeB hV hh B.gs.length (Nat.le_refl _)
 rw [← Jr]
 by_cases e:(qX B h B.gs.length).1=-1
 ·refine .inl ⟨e,fun g hg=>?_⟩
  obtain ⟨j,hj,rfl⟩:=List.getElem_of_mem hg
  exact (hP.none e).2 j _ hj (List.getElem?_eq_getElem hj)
 ·obtain ⟨k,x,hk,e1,hx,h7,e2,hall⟩:=hP.some e
  refine .inr ⟨k,x,e1,hx,h7,fun j g' hg' h7'=>?_⟩
  rw [← e2]
  exact (hall j g' (List.getElem?_eq_some_iff.1 hg').1 hg' h7').1
structure SprI (B:Bk) (h:Nat) (s:List Grp):Prop where
 chk:checkN { B with gs:=s }=0
 len:s.length=B.gs.length
 get:∀(i:Nat) g,s[i]? = some g→∃x,B.gs[i]? = some x∧g.name=x.name∧g.traffic=x.traffic∧x.trunks≤g.trunks
 best:∀(i k:Nat) g x g',s[i]? = some g→B.gs[i]? = some x→g.trunks≠x.trunks→k≠i→s[k]? = some g'→g'.trunks≠7→above (qp g' h) (qp { g with trunks:=g.trunks - 1 } h)=false
theorem SprI.first {B:Bk} (hc:checkN B=0) (h:Nat):SprI B h B.gs:=⟨hc,rfl,fun i g hg=>⟨g,hg,rfl,rfl,Int.le_refl _⟩,fun i k g x g' hg hx hn=>by rw [hg] at hx;cases hx;exact absurd rfl hn⟩
theorem SprI.valid {B:Bk} {h:Nat} {s:List Grp} (H:SprI B h s):Valid { B with gs:=s }:=qy H.chk
theorem qgo {B:Bk} (hV:Valid B) {h:Nat} (hh:(h:Int) < B.hours) {g:Grp} (hg:g∈B.gs) (h7:g.trunks≠7):0 < (qp g h).2:=by
 obtain ⟨j,hj,rfl⟩:=List.getElem_of_mem hg
 exact ym hV hh (List.getElem?_eq_getElem hj) h7
theorem SprI.last_pos {B:Bk} {h:Nat} {s:List Grp} (H:SprI B h s) (hV:Valid B) (hh:(h:Int) < B.hours) {i:Nat} {g x:Grp} (hg:s[i]? = some g) (hx:B.gs[i]? = some x) (hn:g.trunks≠x.trunks) :
 0≤g.trunks - 1∧g.trunks - 1≤6∧checkN { B with gs:=yL s i (g.trunks - 1) }=0∧0 < (qp { g with trunks:=g.trunks - 1 } h).2:=by
 obtain ⟨y,hy,_,_,e3⟩:=H.get i g hg
 rw [hx] at hy
 cases hy
 have t0:=(hV.grp x (List.mem_of_getElem? hx)).tr0
 have t7:=(H.valid.grp g (List.mem_of_getElem? hg)).tr7
 have hc:=Qq (B:={ B with gs:=s }) H.chk (k:=i) (t:=g.trunks - 1) (by omega) (by omega)
 refine ⟨by omega,by omega,hc,?_⟩
 have hget:(yL s i (g.trunks - 1))[i]? = some { g with trunks:=g.trunks - 1 }:=by
  rw [jL hg,List.getElem?_set_self (List.getElem?_eq_some_iff.1 hg).1]
 exact ym (B:={ B with gs:=yL s i (g.trunks - 1) }) (qy hc) hh hget (by show g.trunks - 1≠7;omega)
theorem SprI.step {B:Bk} {h:Nat} {s:List Grp} (H:SprI B h s) (hV:Valid B) (hh:(h:Int) < B.hours):SprI B h (xC s (yz h s)):=by
 rcases qap H.valid hh with ⟨e,_⟩ | ⟨m,y,e,hy,h7,hall⟩
 ·simp only at e
  rw [e]
  exact H
 ·simp only at e hy hall
  rw [e,qcA hy]
  have hGy:=H.valid.grp y (List.mem_of_getElem? hy)
  have y0:=hGy.tr0
  have y7:=hGy.tr7
  have hc:=Qq (B:={ B with gs:=s }) H.chk (k:=m) (t:=y.trunks+1) (by omega) (by omega)
  refine ⟨hc,by rw [qH,H.len],fun i g hg=>?_,fun i k g x g' hg hx hn hki hg' hg7=>?_⟩
  ·obtain ⟨z,hz,hgz⟩:=xm hg
   obtain ⟨x,hx,e1,e2,e3⟩:=H.get i z hz
   rcases hgz with ⟨rfl,_⟩ | ⟨rfl,rfl⟩
   ·exact ⟨x,hx,e1,e2,e3⟩
   ·rw [hy] at hz
    cases hz
    exact ⟨x,hx,e1,e2,by show x.trunks≤y.trunks+1;omega⟩
  ·obtain ⟨z,hz,hgz⟩:=xm hg
   obtain ⟨z',hz',hgz'⟩:=xm hg'
   rcases hgz with ⟨rfl,hne⟩ | ⟨rfl,rfl⟩
   ·rcases hgz' with ⟨rfl,hne'⟩ | ⟨rfl,rfl⟩
    ·exact H.best i k g x g' hz hx hn hki hz' hg7
    ·rw [hy] at hz'
     cases hz'
     have h1:=H.best i k g x y hz hx hn hki hy h7
     have h2:=grp_less H.valid hh (List.mem_of_getElem? hy) (by have:y.trunks+1≠7:=hg7;omega)
     have hget:(yL s k (y.trunks+1))[k]? = some { y with trunks:=y.trunks+1 }:=by
      rw [jL hy,List.getElem?_set_self (List.getElem?_eq_some_iff.1 hy).1]
     exact YE (ym (B:={ B with gs:=yL s k (y.trunks+1) }) (qy hc) hh hget hg7) (qgo H.valid hh (List.mem_of_getElem? hy) h7) (H.last_pos hV hh hz hx hn).2.2.2 h2 h1
   ·rw [hy] at hz
    cases hz
    rcases hgz' with ⟨rfl,_⟩ | ⟨rfl,_⟩
    ·have:=hall k g' hz' hg7
     rw [QS (g:={ y with trunks:=y.trunks+1 - 1 }) (x:=y) h rfl (by show y.trunks+1 - 1=y.trunks;omega)]
     exact this
    ·exact absurd rfl hki
theorem SprI.all {B:Bk} (hc:checkN B=0) {h:Nat} (hh:(h:Int) < B.hours):∀n,SprI B h (QY h B.gs n)
 | 0=>.first hc h
 | n+1=>(SprI.all hc hh n).step (qy hc) hh
end Go.Proofs.Tryz
namespace Go.Proofs.Tryz
open Go Go.Load Go.RowKit Go.Maps
def WithP (B:Bk) (k:Nat) (t:Int) (e:Ending) (W:World):Prop:=∃g gc,e=.returned (.agg #[.int .i64 B.lim.1,.int .i64 B.lim.2,.int .i64 B.growth,.int .i64 B.hours,.slice (some ⟨g,0,none⟩) B.gs.length gc])∧BookAt W { B with gs:=yL B.gs k t,ga:=some ⟨g,0,none⟩,gc:=gc }
set_option maxHeartbeats 4000000 in
set_option maxRecDepth 100000 in
theorem With_any (B:Bk) (k:Nat) (t:Int) (w:World) (h:BookAt w B) (hk:k < B.gs.length):Calls qg 19 #[bv B,.int .i64 k,.int .i64 t] w fun e w'=>WithP B k t e w'∧Below w.heap.size w w':=by
 obtain ⟨i0,hi,hz0,hz1,hz2⟩:=info_parts qcP
 have hi:=(xu 36).trans hi
 have hU:qg.underlying 24=some (.slice 36):=(zu _).trans Tryz.underlying24
 have hsm:=h.small
 have h20:=hsm.1
 obtain ⟨b,o,hga,hcs⟩:=h.row (by omega)
 have HP:=Lib.hid (YS hcs)
 have HN:=Lib.hid (zB B.gs)
 have HO:Hid (∀u∈qM B.gs,u.oneCell'=true):=Lib.hid fun u hu=>by
  obtain ⟨x,_,hx⟩:=List.mem_flatMap.1 hu
  simp at hx;rcases hx with rfl | rfl | rfl <;> rfl
 have HA:=Lib.hid h
 have HSM:=Lib.hid hsm
 clear h hcs hsm
 obtain ⟨lim,gr,hr,gs,ga,gc⟩:=B
 simp only [bv] at *
 subst hga
 go_enter s19,ntmps19
 go_upto_region 2 with fail
 obtain ⟨W,hW⟩:∃W,W=((w.alloc (.cells #[.int .i64 lim.1,.int .i64 lim.2,.int .i64 gr,.int .i64 hr,.slice (some ⟨b,o,none⟩) gs.length gc] 26)).alloc (.cells #[.int .i64 0,.int .i64 0,.int .i64 0,.int .i64 0,.slice none 0 0] 26)).alloc (.cells #[.int .i64 lim.1,.int .i64 lim.2,.int .i64 gr,.int .i64 hr,.slice (some ⟨b,o,none⟩) gs.length gc] 26):=⟨_,rfl⟩
 have c4:W.cell? ⟨w.heap.size,4,none⟩=some (.slice (some ⟨b,o,none⟩) gs.length gc):=by rw [hW];go_cell
 have F6:Five W (w.heap.size+1) (.int .i64 0) (.int .i64 0) (.int .i64 0) (.int .i64 0) (.slice none 0 0):=by rw [hW];exact ⟨⟨by go_cell,by go_cell,by go_cell,by go_cell,by go_cell⟩,⟨by go_cell,by go_cell,by go_cell,by go_cell,by go_cell⟩⟩
 have F7:Five W (w.heap.size+1+1) (.int .i64 lim.1) (.int .i64 lim.2) (.int .i64 gr) (.int .i64 hr) (.slice (some ⟨b,o,none⟩) gs.length gc):=by rw [hW];exact ⟨⟨by go_cell,by go_cell,by go_cell,by go_cell,by go_cell⟩,⟨by go_cell,by go_cell,by go_cell,by go_cell,by go_cell⟩⟩
 have hBW:Below w.heap.size w W:=by rw [hW];go_grown
 have hWs:w.heap.size+1+1 < W.heap.size:=by rw [hW];simp
 rw [← hW]
 clear hW
 have HPW:Hid (∀j u,(qM gs)[j]? = some u→W.cell? ((⟨b,o,none⟩:Addr).add j)=some u):=Lib.hid fun j u hu=>qb _ hBW (HP.out j u hu)
 have HF6:=Lib.hid F6
 have HF7:=Lib.hid F7
 have HWS:=Lib.hid hWs
 obtain ⟨⟨e0,e1,e2,e3,e4⟩,⟨k0,k1,k2,k3,k4⟩⟩:=id F7
 generalize hz6:w.heap.size+1=z6 at *
 generalize hz7:z6+1=z7 at *
 have HZ:Hid (z6+1=z7∧w.heap.size+1=z6):=Lib.hid ⟨hz7,hz6⟩
 clear hz6 hz7 F6 F7 hWs
 have l3:w.heap.size < W.heap.size:=lt_of_cell c4
 have l7:z7 < W.heap.size:=lt_of_cell e0
 go_upto_region 3 with (at_builtin;refine wpList_append_own _ rfl (.tmp 9) (.tmp 11) 24 rfl W.heap.size 36 i0 (.agg #[.string ⟨#[]⟩,.int .i64 0,.slice none 0 0]) 3 48 hU hi hz0 hz1 hz2 rfl (by decide) _ 0 [] rfl (World.ownsRow_made W #[] 0 (Nat.le_refl _) (by unfold maxLen;omega) rfl) ⟨b,o,none⟩ gs.length gc (qM gs) rfl HN.out (fun j u hu=>qi (HPW.out j u hu)) HO.out (by unfold maxLen;omega) (by omega) (by simp) ?_;intro v1 w3 hown1 hgrow1 hnil1;have hB3:=((Below.refl _ W).alloc (Nat.le_refl _) _).grown hgrow1 (by simp) (fun k hk=>by cases hk;exact Nat.le_refl _);obtain ⟨ng,cap,ev,hb1,hb2,hb3,hb4⟩:=QW hown1 (fun e=>by have:=(hnil1.1 e).1;cases this);rw [Nat.zero_add] at ev hb3;rw [List.nil_append] at hb4;subst ev;clear hown1 hgrow1 hnil1;have e0:=qb _ hB3 e0;have e1:=qb _ hB3 e1;have e2:=qb _ hB3 e2;have e3:=qb _ hB3 e3;have y4:=qd _ hB3 e4 k4;have e4:=qb _ hB3 e4)
 obtain ⟨zz,zw⟩:=id HZ.out
 have hng:z7≠ng:=by omega
 have hng6:ng≠z6:=by omega
 have G7:=HF7.out.keep hB3
 have G6:=HF6.out.keep hB3
 obtain ⟨W4,hW4⟩:∃W4,w3.setCell ⟨z7,4,none⟩ (.slice (some ⟨ng,0,none⟩) gs.length cap)=W4:=⟨_,rfl⟩
 have g7:Five W4 z7 (.int .i64 lim.1) (.int .i64 lim.2) (.int .i64 gr) (.int .i64 hr) (.slice (some ⟨ng,0,none⟩) gs.length cap):=by
  rw [← hW4]
  obtain ⟨⟨a0,a1,a2,a3,a4⟩,⟨b0,b1,b2,b3,b4⟩⟩:=G7
  exact ⟨⟨qc (by simp) a0,qc (by simp) a1,qc (by simp) a2,qc (by simp) a3,qV (qA a4)⟩,⟨by simpa using b0,by simpa using b1,by simpa using b2,by simpa using b3,by simpa using b4⟩⟩
 have g6:Five W4 z6 (.int .i64 0) (.int .i64 0) (.int .i64 0) (.int .i64 0) (.slice none 0 0):=by rw [← hW4];exact G6.at (by omega)
 have hO4:OwnAt W4 ng (qM gs):=by rw [← hW4];exact hb4.other hng
 have hB4:Below w.heap.size w W4:=by rw [← hW4];exact (bcl hBW hB3).setCell (by show w.heap.size≤z7;omega) _
 rw [hW4]
 clear hW4 e0 e1 e2 e3 e4 y4 G7 G6 HPW HF6 HF7 hb4 c4
 obtain ⟨x,hx⟩:∃x,gs[k]? = some x:=⟨gs[k],List.getElem?_eq_getElem hk⟩
 obtain ⟨x0,x1⟩:=hO4 _ _ (zh gs k x hx).2.1
 obtain ⟨⟨e0,e1,e2,e3,e4⟩,_⟩:=id g7
 have hki:(k:Int) < (gs.length:Int):=by omega
 have hk0:(0:Int)≤(k:Int):=Int.natCast_nonneg k
 have HX:=Lib.hid hx
 clear hx zz zw
 go_upto_region 4 with fail
 have g7:=g7.at (c:=ng) (j:=k * 3+1) (v:=.int .i64 t) hng.symm
 have g6:=g6.at (c:=ng) (j:=k * 3+1) (v:=.int .i64 t) hng6
 have hB5:=hB4.setCell (p:=⟨ng,k * 3+1,none⟩) (show w.heap.size≤ng by have:=hBW.size;omega) (.int .i64 t)
 have hO5:=hO4.set (j:=k * 3+1) (v:=.int .i64 t) (by rw [zB];omega)
 rw [← xI gs k x t HX.out,← jL HX.out] at hO5
 obtain ⟨W5,hW5⟩:∃W5,W4.setCell ⟨ng,k * 3+1,none⟩ (.int .i64 t)=W5:=⟨_,rfl⟩
 rw [hW5] at g7 g6 hB5 hO5 ⊢
 clear hW5 x0 x1 e0 e1 e2 e3 e4 hO4 hB4
 obtain ⟨⟨e0,e1,e2,e3,e4⟩,_⟩:=id g7
 obtain ⟨⟨c0,c1,c2,c3,c4⟩,⟨f0,f1,f2,f3,f4⟩⟩:=id g6
 go_wp2
 obtain ⟨zz,zw⟩:=id HZ.out
 refine qda results19 Qj jy rfl c0 c1 c2 c3 c4 ⟨⟨ng,cap,rfl,?_⟩,Below.set5 hB5 (by omega)⟩
 have hO6:=hO5.five (b:=z6) (v0:=.int .i64 lim.1) (v1:=.int .i64 lim.2) (v2:=.int .i64 gr) (v3:=.int .i64 hr) (v4:=.slice (some ⟨ng,0,none⟩) gs.length cap) hng6.symm
 refine ⟨fun _=>⟨ng,0,rfl,Xd hO6⟩,fun y hy hl=>?_,⟨by show (yL gs k t).length≤20;rw [qH];exact HSM.out.1,(Jb HSM.out k t).2⟩,by show (yL gs k t).length≤cap;rw [qH];exact hb3⟩
 obtain ⟨i,hi',rfl⟩:=List.getElem_of_mem hy
 obtain ⟨v,hv,hvv⟩:=xm (List.getElem?_eq_getElem hi')
 have hT:=(HA.out.traf v (List.mem_of_getElem? hv)).keep (Below.set5 hB5 (b:=z6) (v0:=.int .i64 lim.1) (v1:=.int .i64 lim.2) (v2:=.int .i64 gr) (v3:=.int .i64 hr) (v4:=.slice (some ⟨ng,0,none⟩) gs.length cap) (by omega))
 rcases hvv with ⟨e,_⟩ | ⟨_,e⟩
 ·rw [e] at hl ⊢;exact hT hl
 ·rw [e] at hl ⊢;exact hT hl
end Go.Proofs.Tryz
