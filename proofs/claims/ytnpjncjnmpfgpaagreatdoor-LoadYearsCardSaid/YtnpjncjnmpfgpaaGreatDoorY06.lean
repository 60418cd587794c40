/-
  Lemmas about the program and the machine (C33 to B35), upon which the last text of this claim rests; no condition.
-/
import Derived.Deep.Cut
import Derived.Deep.CutRange
import Derived.Deep.Light
import Derived.Test.YtnpjncjnmpfgpaaGreatDoorY05
set_option linter.unusedSimpArgs false
set_option linter.unusedVariables false
namespace Go.Proofs.Tryz
open Go Go.Load Go.RowKit
def blank (g:Grp):Grp:={ g with ta:=none,tc:=0 }
theorem ZA {l l':List Grp} (h:qM l l'):l'.map blank=l.map blank:=by
 refine List.ext_getElem? fun i=>?_
 rw [List.getElem?_map,List.getElem?_map]
 cases h1:l[i]? with
 | none=>rw [List.getElem?_eq_none (by have:=List.getElem?_eq_none_iff.1 h1;have:=h.1;omega)]
 | some g =>
   have hi:=(List.getElem?_eq_some_iff.1 h1).1
   obtain ⟨g',h2⟩:∃g',l'[i]? = some g':=⟨l'[i]'(by have:=h.1;omega),by simp⟩
   obtain ⟨a,b,c⟩:=h.2 i g g' h1 h2
   rw [h2]
   simp [blank,a,b,c]
theorem qM.trans {a b c:List Grp} (h:qM a b) (k:qM b c):qM a c:=⟨k.1.trans h.1,fun i x z hx hz=>by
 have hi:=(List.getElem?_eq_some_iff.1 hx).1
 obtain ⟨y,hy⟩:∃y,b[i]? = some y:=⟨b[i]'(by have:=h.1;omega),by simp⟩
 obtain ⟨p,q,r⟩:=h.2 i x y hx hy
 obtain ⟨p',q',r'⟩:=k.2 i y z hy hz
 exact ⟨p'.trans p,q'.trans q,r'.trans r⟩⟩
theorem Xl (gs:List Grp) (hours:Int) (i:Nat) (g:Grp):zw (gs.map blank) hours i (blank g)=zw gs hours i g:=by
 unfold zw
 rw [← List.map_take,List.any_map]
 rfl
theorem jC (f f':Nat→Grp→Int) (h:∀i g,f' i (blank g)=f i g):∀(l:List Grp) (i:Nat),qV f' i (l.map blank)=qV f i l
 | [],_=>rfl
 | g :: l,i=>by
   simp only [List.map_cons,qV,h,jC f f' h l]
theorem ZH (B:Bk):checkN { B with gs:=B.gs.map blank,ga:=none,gc:=0 }=checkN B:=by
 unfold checkN
 have e1:zL { B with gs:=B.gs.map blank,ga:=none,gc:=0 }=zL B:=rfl
 have e2:yV { B with gs:=B.gs.map blank,ga:=none,gc:=0 }=yV B:=by
  unfold yV
  simp only [List.length_map]
  rw [jC _ _ (Xl B.gs B.hours)]
 rw [e1,e2]
theorem QF {B:Bk} {l:List Grp} (h:qM B.gs l) (ga:Option Addr) (gc:Nat):checkN { B with gs:=l,ga:=ga,gc:=gc }=checkN B:=by
 rw [← ZH,← ZH B]
 simp only [ZA h]
def qo (B:Bk):Nat→Bk
 | 0=>B
 | n+1=>YC (qo B n)
theorem Qd (B:Bk):∀n,(qo B n).gs.length=B.gs.length
 | 0=>rfl
 | n+1=>by simp [qo,YC,Qd B n]
theorem yc (B:Bk):∀n,(qo B n).lim=B.lim∧(qo B n).growth=B.growth∧(qo B n).hours=B.hours∧(qo B n).ga=B.ga∧(qo B n).gc=B.gc
 | 0=>⟨rfl,rfl,rfl,rfl,rfl⟩
 | n+1=>yc B n
theorem jb (B:Bk):∀(n i:Nat) (x:Grp),(qo B n).gs[i]? = some x→∃y:Grp,B.gs[i]? = some y∧x.name=y.name∧x.trunks=y.trunks∧x.traffic.length=y.traffic.length
 | 0,i,x,h=>⟨x,h,rfl,rfl,rfl⟩
 | n+1,i,x,h=>by
   simp only [qo,YC,List.getElem?_map] at h
   obtain ⟨z,hz,rfl⟩:=Option.map_eq_some_iff.1 h
   obtain ⟨y,hy,a,b,c⟩:=jb B n i z hz
   exact ⟨y,hy,a,b,by simpa [QU] using c⟩
def Xh (base:Nat) (B:Bk) (n:Nat) (W:World) (g gc:Nat) (l:List Grp) (tb:Nat→Nat):Prop:=qM (qo B n).gs l∧OwnGs base W g l l.length tb∧l.length≤gc
theorem Xh.book {base g gc n:Nat} {B:Bk} {W:World} {l:List Grp} {tb:Nat→Nat} (h:Xh base B n W g gc l tb) (hsm:B.gs.length≤20∧∀x∈B.gs,x.traffic.length≤20∧x.name.size≤100):BookAt W { B with gs:=l,ga:=some ⟨g,0,none⟩,gc:=gc }:=by
 obtain ⟨hS,hO,hc⟩:=h
 have hb:=Yr (B:=qo B n) hS hO hc ⟨by rw [Qd];exact hsm.1,fun x hx=>by
  obtain ⟨i,hi⟩:=List.getElem?_of_mem hx
  obtain ⟨y,hy,a,_,b⟩:=jb B n i x hi
  rw [a,b];exact hsm.2 y (List.mem_of_getElem? hy)⟩
 exact ⟨hb.row,hb.traf,hb.small,hb.cap⟩
theorem Xh.keep {base g gc n:Nat} {B:Bk} {W W1:World} {l:List Grp} {tb:Nat→Nat} (h:Xh base B n W g gc l tb) (hB:Below W.heap.size W W1):Xh base B n W1 g gc l tb:=⟨h.1,h.2.1.keep hB,h.2.2⟩
theorem Xh.filled {base g gc n:Nat} {B:Bk} {W:World} {l:List Grp} {tb:Nat→Nat} (h:Xh base B n W g gc l tb) (ht:∀x∈B.gs,1≤x.traffic.length):∀x∈l,1≤x.traffic.length:=fun x hx=>by
 obtain ⟨i,hi,rfl⟩:=List.getElem_of_mem hx
 have hl:=h.1.1
 obtain ⟨z,hz⟩:∃z,(qo B n).gs[i]? = some z:=⟨(qo B n).gs[i]'(by omega),by simp⟩
 obtain ⟨_,_,c⟩:=h.1.2 i z l[i] hz (by simp)
 obtain ⟨y,hy,_,_,b⟩:=jb B n i z hz
 rw [c,b];exact ht y (List.mem_of_getElem? hy)
theorem Xh.year {base b' g gc n:Nat} {B:Bk} {W W1:World} {l:List Grp} {tb:Nat→Nat} {e:Ending} (h:Xh base B n W g gc l tb) (hb:base≤b') (k:OwnP b' (YC { B with gs:=l,ga:=some ⟨g,0,none⟩,gc:=gc }) W1 e) :
 ∃g gc l tb,e=.returned (bv { B with gs:=l,ga:=some ⟨g,0,none⟩,gc:=gc })∧Xh base B (n+1) W1 g gc l tb:=by
 obtain ⟨g1,gc1,l1,tb1,e1,hS,hO,hc⟩:=k
 refine ⟨g1,gc1,l1,tb1,e1,?_,hO.mono hb,hc⟩
 have:=YW (r:=B.growth) h.1
 have e:=(yc B n).2.1
 simp only [qo,YC,e]
 exact this.trans hS
theorem OwnP.first {base:Nat} {B:Bk} {W:World} {e:Ending} (k:OwnP base B W e):∃g gc l tb,e=.returned (bv { B with gs:=l,ga:=some ⟨g,0,none⟩,gc:=gc })∧Xh base B 0 W g gc l tb:=by
 obtain ⟨g1,gc1,l1,tb1,e1,hS,hO,hc⟩:=k
 exact ⟨g1,gc1,l1,tb1,e1,hS,hO,hc⟩
end Go.Proofs.Tryz
namespace Go.Proofs.Tryz
open Go Go.Sim
@[go_sem] theorem s55:qf.funcs[55]? = some f55:=by kernel_rfl
@[go_sem] theorem c55 (a w):(callFunc 55 a).run qf w=.ok (.enter 55 a) w:=qh s55 (by kernel_rfl) (by kernel_rfl) a w
@[go_sem] theorem s50:qf.funcs[50]? = some f50:=by kernel_rfl
@[go_sem] theorem c50 (a w):(callFunc 50 a).run qf w=.ok (.enter 50 a) w:=qh s50 (by kernel_rfl) (by kernel_rfl) a w
@[go_sem] theorem s54:qf.funcs[54]? = some f54:=by kernel_rfl
@[go_sem] theorem c54 (a w):(callFunc 54 a).run qf w=.ok (.enter 54 a) w:=qh s54 (by kernel_rfl) (by kernel_rfl) a w
@[go_sem] theorem s132:qf.funcs[132]? = some f132:=by kernel_rfl
@[go_sem] theorem c132 (a w):(callFunc 132 a).run qf w=.ok (.enter 132 a) w:=qh s132 (by kernel_rfl) (by kernel_rfl) a w
@[go_sem] theorem s122:qf.funcs[122]? = some f122:=by kernel_rfl
@[go_sem] theorem c122 (a w):(callFunc 122 a).run qf w=.ok (.enter 122 a) w:=qh s122 (by kernel_rfl) (by kernel_rfl) a w
@[go_sem] theorem s97:qf.funcs[97]? = some f97:=by kernel_rfl
@[go_sem] theorem c97 (a w):(callFunc 97 a).run qf w=.ok (.enter 97 a) w:=qh s97 (by kernel_rfl) (by kernel_rfl) a w
@[go_sem] theorem s11:qf.funcs[11]? = some f11:=by kernel_rfl
@[go_sem] theorem c11 (a w):(callFunc 11 a).run qf w=.ok (.enter 11 a) w:=qh s11 (by kernel_rfl) (by kernel_rfl) a w
@[go_sem] theorem s118:qf.funcs[118]? = some f118:=by kernel_rfl
@[go_sem] theorem c118 (a w):(callFunc 118 a).run qf w=.ok (.enter 118 a) w:=qh s118 (by kernel_rfl) (by kernel_rfl) a w
@[go_sem] theorem s68:qf.funcs[68]? = some f68:=by kernel_rfl
@[go_sem] theorem c68 (a w):(callFunc 68 a).run qf w=.ok (.enter 68 a) w:=qh s68 (by kernel_rfl) (by kernel_rfl) a w
@[go_sem] theorem s18:qf.funcs[18]? = some f18:=by kernel_rfl
@[go_sem] theorem c18 (a w):(callFunc 18 a).run qf w=.ok (.enter 18 a) w:=qh s18 (by kernel_rfl) (by kernel_rfl) a w
@[go_sem] theorem s72:qf.funcs[72]? = some f72:=by kernel_rfl
@[go_sem] theorem c72 (a w):(callFunc 72 a).run qf w=.ok (.enter 72 a) w:=qh s72 (by kernel_rfl) (by kernel_rfl) a w
@[go_sem] theorem s21:qf.funcs[21]? = some f21:=by kernel_rfl
@[go_sem] theorem c21 (a w):(callFunc 21 a).run qf w=.ok (.enter 21 a) w:=qh s21 (by kernel_rfl) (by kernel_rfl) a w
@[go_sem] theorem s23:qf.funcs[23]? = some f23:=by kernel_rfl
@[go_sem] theorem c23 (a w):(callFunc 23 a).run qf w=.ok (.enter 23 a) w:=qh s23 (by kernel_rfl) (by kernel_rfl) a w
@[go_sem] theorem s19:qf.funcs[19]? = some f19:=by kernel_rfl
@[go_sem] theorem c19 (a w):(callFunc 19 a).run qf w=.ok (.enter 19 a) w:=qh s19 (by kernel_rfl) (by kernel_rfl) a w
@[go_sem] theorem s52:qf.funcs[52]? = some f52:=by kernel_rfl
@[go_sem] theorem c52 (a w):(callFunc 52 a).run qf w=.ok (.enter 52 a) w:=qh s52 (by kernel_rfl) (by kernel_rfl) a w
@[go_sem] theorem s53:qf.funcs[53]? = some f53:=by kernel_rfl
@[go_sem] theorem c53 (a w):(callFunc 53 a).run qf w=.ok (.enter 53 a) w:=qh s53 (by kernel_rfl) (by kernel_rfl) a w
@[go_sem] theorem s94:qf.funcs[94]? = some f94:=by kernel_rfl
@[go_sem] theorem c94 (a w):(callFunc 94 a).run qf w=.ok (.enter 94 a) w:=qh s94 (by kernel_rfl) (by kernel_rfl) a w
@[go_sem] theorem s95:qf.funcs[95]? = some f95:=by kernel_rfl
@[go_sem] theorem c95 (a w):(callFunc 95 a).run qf w=.ok (.enter 95 a) w:=qh s95 (by kernel_rfl) (by kernel_rfl) a w
@[go_sem] theorem s6:qf.funcs[6]? = some f6:=by kernel_rfl
@[go_sem] theorem c6 (a w):(callFunc 6 a).run qf w=.ok (.enter 6 a) w:=qh s6 (by kernel_rfl) (by kernel_rfl) a w
end Go.Proofs.Tryz
namespace Go.Proofs.Tryz
open Go Go.Load Go.RowKit
structure Five (W:World) (b:Nat) (v0 v1 v2 v3 v4:Value):Prop where
 c:W.cell? ⟨b,0,none⟩=some v0∧W.cell? ⟨b,1,none⟩=some v1∧W.cell? ⟨b,2,none⟩=some v2∧W.cell? ⟨b,3,none⟩=some v3∧W.cell? ⟨b,4,none⟩=some v4
 f:W.frozen? ⟨b,0,none⟩=false∧W.frozen? ⟨b,1,none⟩=false∧W.frozen? ⟨b,2,none⟩=false∧W.frozen? ⟨b,3,none⟩=false∧W.frozen? ⟨b,4,none⟩=false
theorem Five.keep {W W1:World} {b:Nat} {v0 v1 v2 v3 v4:Value} (h:Five W b v0 v1 v2 v3 v4) (hB:Below W.heap.size W W1):Five W1 b v0 v1 v2 v3 v4:=by
 obtain ⟨⟨a0,a1,a2,a3,a4⟩,⟨f0,f1,f2,f3,f4⟩⟩:=h
 exact ⟨⟨qb _ hB a0,qb _ hB a1,qb _ hB a2,qb _ hB a3,qb _ hB a4⟩,⟨qg _ hB a0 f0,qg _ hB a1 f1,qg _ hB a2 f2,qg _ hB a3 f3,qg _ hB a4 f4⟩⟩
theorem Five.put {W:World} {b:Nat} {v0 v1 v2 v3 v4:Value} (u0 u1 u2 u3 u4:Value) (h:Five W b v0 v1 v2 v3 v4):Five (set5 W b u0 u1 u2 u3 u4) b u0 u1 u2 u3 u4:=by
 obtain ⟨⟨a0,a1,a2,a3,a4⟩,⟨f0,f1,f2,f3,f4⟩⟩:=h
 exact ⟨put5 u0 u1 u2 u3 u4 a0 a1 a2 a3 a4,by simpa [set5] using f0,by simpa [set5] using f1,by simpa [set5] using f2,by simpa [set5] using f3,by simpa [set5] using f4⟩
theorem Five.other {W:World} {b c:Nat} {v0 v1 v2 v3 v4:Value} (u0 u1 u2 u3 u4:Value) (h:Five W b v0 v1 v2 v3 v4) (e:b≠c):Five (set5 W c u0 u1 u2 u3 u4) b v0 v1 v2 v3 v4:=by
 obtain ⟨⟨a0,a1,a2,a3,a4⟩,⟨f0,f1,f2,f3,f4⟩⟩:=h
 exact ⟨⟨(qO e).trans a0,(qO e).trans a1,(qO e).trans a2,(qO e).trans a3,(qO e).trans a4⟩,by simpa [set5] using f0,by simpa [set5] using f1,by simpa [set5] using f2,by simpa [set5] using f3,by simpa [set5] using f4⟩
theorem Five.new (W:World) (v0 v1 v2 v3 v4:Value) (ty:TypeId):Five (W.alloc (.cells #[v0,v1,v2,v3,v4] ty)) W.heap.size v0 v1 v2 v3 v4 :=
 ⟨⟨by go_cell,by go_cell,by go_cell,by go_cell,by go_cell⟩,⟨by go_cell,by go_cell,by go_cell,by go_cell,by go_cell⟩⟩
theorem Five.new' {b:Nat} (W:World) (v0 v1 v2 v3 v4:Value) (ty:TypeId) (e:b=W.heap.size):Five (W.alloc (.cells #[v0,v1,v2,v3,v4] ty)) b v0 v1 v2 v3 v4:=by subst e;exact .new W v0 v1 v2 v3 v4 ty
theorem OwnGs.five' {base g k b:Nat} {W:World} {l:List Grp} {tb:Nat→Nat} {v0 v1 v2 v3 v4:Value} (h:OwnGs base W g l k tb) (hk:k=l.length) (hb:b < base):OwnGs base (set5 W b v0 v1 v2 v3 v4) g l k tb :=
 h.five (by have:=h.lo;omega) fun i y hi hy=>by have:=(h.ta i y hi hy).2.1;omega
theorem Xh.five {base g gc n b:Nat} {B:Bk} {W:World} {l:List Grp} {tb:Nat→Nat} {v0 v1 v2 v3 v4:Value} (h:Xh base B n W g gc l tb) (hb:b < base):Xh base B n (set5 W b v0 v1 v2 v3 v4) g gc l tb:=⟨h.1,h.2.1.five' rfl hb,h.2.2⟩
theorem Xh.mono {a b g gc n:Nat} {B:Bk} {W:World} {l:List Grp} {tb:Nat→Nat} (h:Xh b B n W g gc l tb) (e:a≤b):Xh a B n W g gc l tb:=⟨h.1,h.2.1.mono e,h.2.2⟩
def Xq (base:Nat) (B:Bk) (N:Nat) (W:World) (e:Ending):Prop :=
 if checkN (qo B N)≠0 then e=.returned (.tuple #[bz,.int .i64 (checkN (qo B N))])
 else ∃g gc l tb,e=.returned (.tuple #[bv { B with gs:=l,ga:=some ⟨g,0,none⟩,gc:=gc },.int .i64 0])∧Xh base B N W g gc l tb
def qdR (base:Nat) (B:Bk) (n:Int) (W:World) (e:Ending):Prop :=
 if checkN B≠0 then e=.returned (.tuple #[bz,.int .i64 (checkN B)])
 else if btw n 0 6=false then e=.returned (.tuple #[bz,.int .i64 1])
 else Xq base B n.toNat W e
set_option maxHeartbeats 2000000 in
set_option maxRecDepth 100000 in
theorem Grow_bad (B:Bk) (n:Int) (w:World) (h:BookAt w B) (hG:Globs w) (hc:checkN B≠0):Calls qf 17 #[bv B,.int .i64 n] w fun e w'=>e=.returned (.tuple #[bz,.int .i64 (checkN B)])∧Below w.heap.size w w':=by
 have hop:=fun W (hB:Below w.heap.size w W)=>zS B true W (h.keep hB) (hG.keep hB)
 simp only [jG,if_neg hc] at hop
 generalize checkN B=r at *
 obtain ⟨lim,gr,hr,gs,ga,gc⟩:=B
 simp only [bv,bz] at *
 clear h hG
 go_enter s17,ntmps17
 go_upto_region 3 with ((go_at_call 42;(with_reducible refine (hop _ (by go_grown)).mono ?_);rintro e w1 ⟨rfl,hB1⟩;(first | (replace hB:=bcl (by with_reducible assumption) hB1) | (replace hB:=bcl (by go_grown) hB1) | (have hB:=hB1));(try clear hc hg hz);obtain ⟨hc,hg⟩:=qy hB;have hz:=hB.size;clear hB1;(try simp at hz);(try have hlt0:w.heap.size < w1.heap.size:=by omega));have hz5:w.heap.size+1 < w1.heap.size:=(by omega);have hz6:w.heap.size+1 < w1.heap.size+1:=(by omega))
 have hF:=((Five.new' (b:=w.heap.size+1) _ _ _ _ _ _ 26 (by simp)).keep hB).keep ((Below.refl _ w1).alloc (Nat.le_refl _) (.cells #[.int .i64 0,.int .i64 0,.int .i64 0,.int .i64 0,.slice none 0 0] 67))
 have hBw:=(bcl (w:=w) (by go_grown) hB).alloc (w:=w1) (by omega) (.cells #[.int .i64 0,.int .i64 0,.int .i64 0,.int .i64 0,.slice none 0 0] 67)
 obtain ⟨W,hW⟩:∃W,w1.alloc (.cells #[.int .i64 0,.int .i64 0,.int .i64 0,.int .i64 0,.slice none 0 0] 67)=W:=⟨_,rfl⟩
 rw [hW] at hF hBw ⊢
 clear hW hc hg hB hz hz5 hz6
 obtain ⟨⟨c0,c1,c2,c3,c4⟩,⟨f0,f1,f2,f3,f4⟩⟩:=hF
 go_wp2
 exact xB results17 zV zH rfl rfl c0 c1 c2 c3 c4 ⟨rfl,Below.set5 hBw (Nat.le_succ _)⟩
set_option maxHeartbeats 2000000 in
set_option maxRecDepth 100000 in
theorem qcD (B:Bk) (n:Int) (w:World) (h:BookAt w B) (hG:Globs w) (hc:checkN B=0) (hn:¬ (0≤n∧n≤6)):Calls qf 17 #[bv B,.int .i64 n] w fun e w'=>e=.returned (.tuple #[bz,.int .i64 1])∧Below w.heap.size w w':=by
 have hop:=fun W (hB:Below w.heap.size w W)=>zS B true W (h.keep hB) (hG.keep hB)
 simp only [jG,if_pos hc] at hop
 have hbt:=fun W=>qU n 0 6 W hn
 obtain ⟨lim,gr,hr,gs,ga,gc⟩:=B
 simp only [bv,bz] at *
 clear h hG hc
 go_enter s17,ntmps17
 go_upto_region 5 with (first | ((go_at_call 42;(with_reducible refine (hop _ (by go_grown)).mono ?_);rintro e w1 ⟨rfl,hB1⟩;(first | (replace hB:=bcl (by with_reducible assumption) hB1) | (replace hB:=bcl (by go_grown) hB1) | (have hB:=hB1));(try clear hc hg hz);obtain ⟨hc,hg⟩:=qy hB;have hz:=hB.size;clear hB1;(try simp at hz);(try have hlt0:w.heap.size < w1.heap.size:=by omega));have hz5:w.heap.size+1 < w1.heap.size:=(by omega);have hz6:w.heap.size+1 < w1.heap.size+1:=(by omega)) | (go_at_call 65;(with_reducible refine (hbt _).mono ?_);rintro e w1 ⟨rfl,rfl⟩))
 have hF:=((Five.new' (b:=w.heap.size+1) _ _ _ _ _ _ 26 (by simp)).keep hB).keep ((Below.refl _ w1).alloc (Nat.le_refl _) (.cells #[.int .i64 lim.1,.int .i64 lim.2,.int .i64 gr,.int .i64 hr,.slice ga gs.length gc] 67))
 have hF6:=Five.new w1 (.int .i64 lim.1) (.int .i64 lim.2) (.int .i64 gr) (.int .i64 hr) (.slice ga gs.length gc) 67
 have hBw:=(bcl (w:=w) (by go_grown) hB).alloc (w:=w1) (by omega) (.cells #[.int .i64 lim.1,.int .i64 lim.2,.int .i64 gr,.int .i64 hr,.slice ga gs.length gc] 67)
 obtain ⟨W,hW⟩:∃W,w1.alloc (.cells #[.int .i64 lim.1,.int .i64 lim.2,.int .i64 gr,.int .i64 hr,.slice ga gs.length gc] 67)=W:=⟨_,rfl⟩
 have hWs:w1.heap.size < W.heap.size:=by rw [← hW];simp
 rw [hW] at hF hF6 hBw ⊢
 clear hW hc hg hB hz hz6
 clear hz5
 obtain ⟨⟨c0,c1,c2,c3,c4⟩,⟨f0,f1,f2,f3,f4⟩⟩:=hF
 go_wp2
 exact xB results17 zV zH rfl rfl c0 c1 c2 c3 c4 ⟨rfl,Below.set5 hBw (Nat.le_succ _)⟩
set_option maxHeartbeats 4000000 in
set_option maxRecDepth 100000 in
theorem qdS (B:Bk) (N:Nat) (w:World) (h:BookAt w B) (hG:Globs w) (hc:checkN B=0) (hn:N≤6):Calls qf 17 #[bv B,.int .i64 N] w fun e w'=>Xq w.heap.size B N w' e∧Below w.heap.size w w':=by
 have hop:=fun W (hB:Below w.heap.size w W)=>zS B true W (h.keep hB) (hG.keep hB)
 simp only [jG,if_pos hc] at hop
 have hbt:=fun W=>qD (N:Int) 0 6 W ⟨by omega,by omega⟩
 have hV:=qN hc
 have hsm:=h.small
 have hfl:∀g∈B.gs,1≤g.traffic.length:=fun g hg=>by have:=(hV.grp g hg).len;have:=hV.num.2.2.1;omega
 have hown:=fun W (hB:Below w.heap.size w W)=>qbo B W (h.keep hB) hV.len1 hfl
 have HS:=Lib.hid hsm
 have HF:=Lib.hid hfl
 have HV:=Lib.hid hV
 have HG:=Lib.hid hG
 have H1:=Lib.hid hV.num.2.1
 clear hsm hfl hV
 obtain ⟨lim,gr,hr,gs,ga,gc⟩:=B
 simp only [bv,bz] at *
 clear h hG hc
 go_enter s17,ntmps17
 go_upto_region 6 with (first | ((go_at_call 42;(with_reducible refine (hop _ (by go_grown)).mono ?_);rintro e w1 ⟨rfl,hB1⟩;(first | (replace hB:=bcl (by with_reducible assumption) hB1) | (replace hB:=bcl (by go_grown) hB1) | (have hB:=hB1));(try clear hc hg hz);obtain ⟨hc,hg⟩:=qy hB;have hz:=hB.size;clear hB1;(try simp at hz);(try have hlt0:w.heap.size < w1.heap.size:=by omega));have hz5:w.heap.size+1 < w1.heap.size:=(by omega);have hz6:w.heap.size+1 < w1.heap.size+1:=(by omega)) | (go_at_call 65;(with_reducible refine (hbt _).mono ?_);rintro e w1 ⟨rfl,rfl⟩))
 have hF:=((Five.new' (b:=w.heap.size+1) _ _ _ _ _ _ 26 (by simp)).keep hB).keep ((Below.refl _ w1).alloc (Nat.le_refl _) (.cells #[.int .i64 lim.1,.int .i64 lim.2,.int .i64 gr,.int .i64 hr,.slice ga gs.length gc] 67))
 have hF6:=Five.new w1 (.int .i64 lim.1) (.int .i64 lim.2) (.int .i64 gr) (.int .i64 hr) (.slice ga gs.length gc) 67
 have hBw:=(bcl (w:=w) (by go_grown) hB).alloc (w:=w1) (by omega) (.cells #[.int .i64 lim.1,.int .i64 lim.2,.int .i64 gr,.int .i64 hr,.slice ga gs.length gc] 67)
 obtain ⟨W,hW⟩:∃W,w1.alloc (.cells #[.int .i64 lim.1,.int .i64 lim.2,.int .i64 gr,.int .i64 hr,.slice ga gs.length gc] 67)=W:=⟨_,rfl⟩
 have hWs:w1.heap.size < W.heap.size:=by rw [← hW];simp
 rw [hW] at hF hF6 hBw ⊢
 clear hW hc hg hB hz hz6
 obtain ⟨q,hq⟩:∃q,w1.heap.size=q:=⟨_,rfl⟩
 rw [hq] at hF6 hWs ⊢
 have hF6':=hF6
 obtain ⟨⟨e0,e1,e2,e3,e4⟩,_⟩:=hF6'
 go_wp2
 go_at_call 66
 refine (hown _ hBw).mono ?_
 rintro e w2 ⟨hP,hB2⟩
 obtain ⟨g,cg,l,tb,rfl,hN⟩:=hP.first
 replace hN:=hN.mono (show q+1≤W.heap.size from hWs)
 have hqn:w.heap.size+1 < q:=by omega
 have hF:=hF.keep hB2
 have hF6:=hF6.keep hB2
 have hBx:=bcl hBw hB2
 clear hB2 e0 e1 e2 e3 e4 hown hop hbt hP hz5 hBw hWs hq
 obtain ⟨⟨e0,e1,e2,e3,e4⟩,⟨k0,k1,k2,k3,k4⟩⟩:=id hF6
 simp only [bv]
 go_wp2
 have hN5:=hN.five (show q < q+1 by omega) (v0:=.int .i64 lim.1) (v1:=.int .i64 lim.2) (v2:=.int .i64 gr) (v3:=.int .i64 hr) (v4:=.slice (some ⟨g,0,none⟩) l.length cg)
 have hF5:=hF.other (.int .i64 lim.1) (.int .i64 lim.2) (.int .i64 gr) (.int .i64 hr) (.slice (some ⟨g,0,none⟩) l.length cg) (show w.heap.size+1≠q by omega)
 have hF65:=hF6.put (.int .i64 lim.1) (.int .i64 lim.2) (.int .i64 gr) (.int .i64 hr) (.slice (some ⟨g,0,none⟩) l.length cg)
 have hB5:=Below.set5 hBx (b:=q) (by omega) (v0:=.int .i64 lim.1) (v1:=.int .i64 lim.2) (v2:=.int .i64 gr) (v3:=.int .i64 hr) (v4:=.slice (some ⟨g,0,none⟩) l.length cg)
 obtain ⟨W5,hW5⟩:∃W5,set5 w2 q (.int .i64 lim.1) (.int .i64 lim.2) (.int .i64 gr) (.int .i64 hr) (.slice (some ⟨g,0,none⟩) l.length cg)=W5:=⟨_,rfl⟩
 rw [hW5] at hN5 hF5 hF65 hB5
 unfold set5 at hW5
 rw [hW5]
 clear hW5 e0 e1 e2 e3 e4 k0 k1 k2 k3 k4 hF hF6 hBx hN
 go_loopw [27] (fun i wr=>∃k:Nat,i=.int .i64 k∧k≤N∧Below w.heap.size w wr∧∃g gc' l tb,Hid (Xh (q+1) ⟨lim,gr,hr,gs,ga,gc⟩ k wr g gc' l tb)∧Hid (Five wr (w.heap.size+1) (.int .i64 0) (.int .i64 0) (.int .i64 0) (.int .i64 0) (.slice none 0 0))∧Hid (Five wr q (.int .i64 lim.1) (.int .i64 lim.2) (.int .i64 gr) (.int .i64 hr) (.slice (some ⟨g,0,none⟩) l.length gc'))) (fun i _=>N - (intOf i).toNat)
 case atStart=>exact ⟨0,rfl,by omega,hB5,g,cg,l,tb,Lib.hid hN5,Lib.hid hF5,Lib.hid hF65⟩
 case round =>
  clear hN5 hF5 hF65 hB5
  obtain ⟨k,rfl,hk,hBr,g,gc',l,tb,hN,hF,hF6⟩:=hrel
  obtain ⟨⟨e0,e1,e2,e3,e4⟩,⟨k0,k1,k2,k3,k4⟩⟩:=id hF6.out
  by_cases hlt:k < N
  ·have hgr:=JZ ⟨lim,gr,hr,l,some ⟨g,0,none⟩,gc'⟩ wr (hN.out.book HS.out) (by rw [hN.out.1.1,Qd];exact HV.out.len1) (hN.out.filled HF.out) H1.out.1 (by have:=H1.out.2;simp only at this ⊢;omega)
   have hk1:(k:Int) < (N:Int):=by omega
   have hk0:(0:Int)≤(k:Int):=Int.natCast_nonneg k
   have hql:q < wr.heap.size:=lt_of_cell e0
   simp only [bv] at hgr
   go_wp2
   go_at_call 67
   refine hgr.mono ?_
   rintro e w3 ⟨hP,hB3⟩
   obtain ⟨g1,gc1,l1,tb1,rfl,hN1⟩:=hN.out.year (show q+1≤wr.heap.size from hql) hP
   have hF:=hF.out.keep hB3
   have hF6:=hF6.out.keep hB3
   have hBx:=bcl hBr hB3
   clear hB3 e0 e1 e2 e3 e4 k0 k1 k2 k3 k4 hgr hP
   obtain ⟨⟨e0,e1,e2,e3,e4⟩,⟨k0,k1,k2,k3,k4⟩⟩:=id hF6
   simp only [bv]
   go_wp2
   go_roundw
   case rel=>exact ⟨k+1,rfl,by omega,Below.set5 hBx (by omega),g1,gc1,l1,tb1,Lib.hid (hN1.five (by omega)),Lib.hid (hF.other _ _ _ _ _ (by omega)),Lib.hid (hF6.put _ _ _ _ _)⟩
   case measure=>simp [intOf];omega
  ·obtain rfl:k=N:=by omega
   have hch:=QM ⟨lim,gr,hr,l,some ⟨g,0,none⟩,gc'⟩ wr (hN.out.book HS.out) (HG.out.keep hBr)
   have hcN:checkN ⟨lim,gr,hr,l,some ⟨g,0,none⟩,gc'⟩=checkN (qo ⟨lim,gr,hr,gs,ga,gc⟩ k):=by
    rw [← QF hN.out.1 (some ⟨g,0,none⟩) gc']
    have e:=yc ⟨lim,gr,hr,gs,ga,gc⟩ k
    simp only at e
    rw [e.1,e.2.1,e.2.2.1]
   rw [hcN] at hch
   have hql:q < wr.heap.size:=lt_of_cell e0
   obtain ⟨⟨c0,c1,c2,c3,c4⟩,⟨f0,f1,f2,f3,f4⟩⟩:=id hF.out
   have hNN:=Lib.hid hN.out
   obtain ⟨r,hr⟩:∃r,checkN (qo ⟨lim,gr,hr,gs,ga,gc⟩ k)=r:=⟨_,rfl⟩
   rw [hr] at hch
   have HR:=Lib.hid hr
   have hBq:=Lib.hid hBr
   clear hcN hr hN hF hF6
   simp only [bv] at hch
   have hnl:w.heap.size+1 < wr.heap.size:=lt_of_cell c0
   by_cases hr0:r=0
   ·subst hr0
    go_wp2_with (go_at_call 10;refine hch.mono ?_;rintro e w1 ⟨rfl,hB⟩;obtain ⟨hc,hg⟩:=qy hB;have hz1:w.heap.size+1 < w1.heap.size:=(Nat.lt_of_lt_of_le hnl hB.size);have hz2:q < w1.heap.size:=(Nat.lt_of_lt_of_le hql hB.size))
    have hbB:=bcl hBq.out hB
    refine xB results17 zV zH rfl rfl (qb _ hB c0) (qb _ hB c1) (qb _ hB c2) (qb _ hB c3) (qb _ hB c4) ⟨?_,Below.set5 hbB (Nat.le_succ _)⟩
    unfold Xq
    rw [if_neg (fun e=>e HR.out)]
    exact ⟨g,gc',l,tb,rfl,((hNN.out.keep hB).five (b:=w.heap.size+1) (by omega)).mono (show w.heap.size≤q+1 by omega)⟩
   ·have hrb:(r != 0)=true:=by simp [hr0]
    go_wp2_with (go_at_call 10;refine hch.mono ?_;rintro e w1 ⟨rfl,hB⟩;obtain ⟨hc,hg⟩:=qy hB;have hz1:w.heap.size+1 < w1.heap.size:=(Nat.lt_of_lt_of_le hnl hB.size);have hz2:q < w1.heap.size:=(Nat.lt_of_lt_of_le hql hB.size))
    have hbB:=bcl hBq.out hB
    refine xB results17 zV zH rfl rfl (qb _ hB c0) (qb _ hB c1) (qb _ hB c2) (qb _ hB c3) (qb _ hB c4) ⟨?_,Below.set5 hbB (Nat.le_succ _)⟩
    unfold Xq
    rw [if_pos (by rw [HR.out];exact hr0),HR.out]
    rfl
theorem Grow_any (B:Bk) (n:Int) (w:World) (h:BookAt w B) (hG:Globs w):Calls qf 17 #[bv B,.int .i64 n] w fun e w'=>qdR w.heap.size B n w' e∧Below w.heap.size w w':=by
 by_cases hc:checkN B=0
 ·by_cases hn:0≤n∧n≤6
  ·obtain ⟨N,rfl⟩:=Int.eq_ofNat_of_zero_le hn.1
   refine (qdS B N w h hG hc (by omega)).mono fun e w' k=>⟨?_,k.2⟩
   unfold qdR
   rw [if_neg (fun e=>e hc),if_neg (by rw [yT.2 hn];decide),Int.toNat_natCast]
   exact k.1
  ·have hb:btw n 0 6=false:=by
    cases hb:btw n 0 6 with
    | false=>rfl
    | true=>exact absurd (yT.1 hb) hn
   refine (qcD B n w h hG hc hn).mono fun e w' k=>⟨?_,k.2⟩
   unfold qdR
   rw [if_neg (fun e=>e hc),if_pos hb]
   exact k.1
 ·refine (Grow_bad B n w h hG hc).mono fun e w' k=>⟨?_,k.2⟩
  unfold qdR
  rw [if_pos hc]
  exact k.1
end Go.Proofs.Tryz
namespace Go.Proofs.Tryz
open Go Go.Sim
@[go_sem] theorem s33:qf.funcs[33]? = some f33:=by kernel_rfl
@[go_sem] theorem c33 (a w):(callFunc 33 a).run qf w=.ok (.enter 33 a) w:=qh s33 (by kernel_rfl) (by kernel_rfl) a w
@[go_sem] theorem s123:qf.funcs[123]? = some f123:=by kernel_rfl
@[go_sem] theorem c123 (a w):(callFunc 123 a).run qf w=.ok (.enter 123 a) w:=qh s123 (by kernel_rfl) (by kernel_rfl) a w
@[go_sem] theorem s7:qf.funcs[7]? = some f7:=by kernel_rfl
@[go_sem] theorem c7 (a w):(callFunc 7 a).run qf w=.ok (.enter 7 a) w:=qh s7 (by kernel_rfl) (by kernel_rfl) a w
@[go_sem] theorem s49:qf.funcs[49]? = some f49:=by kernel_rfl
@[go_sem] theorem c49 (a w):(callFunc 49 a).run qf w=.ok (.enter 49 a) w:=qh s49 (by kernel_rfl) (by kernel_rfl) a w
@[go_sem] theorem s51:qf.funcs[51]? = some f51:=by kernel_rfl
@[go_sem] theorem c51 (a w):(callFunc 51 a).run qf w=.ok (.enter 51 a) w:=qh s51 (by kernel_rfl) (by kernel_rfl) a w
@[go_sem] theorem s74:qf.funcs[74]? = some f74:=by kernel_rfl
@[go_sem] theorem c74 (a w):(callFunc 74 a).run qf w=.ok (.enter 74 a) w:=qh s74 (by kernel_rfl) (by kernel_rfl) a w
@[go_sem] theorem s32:qf.funcs[32]? = some f32:=by kernel_rfl
@[go_sem] theorem c32 (a w):(callFunc 32 a).run qf w=.ok (.enter 32 a) w:=qh s32 (by kernel_rfl) (by kernel_rfl) a w
@[go_sem] theorem s40:qf.funcs[40]? = some f40:=by kernel_rfl
@[go_sem] theorem c40 (a w):(callFunc 40 a).run qf w=.ok (.enter 40 a) w:=qh s40 (by kernel_rfl) (by kernel_rfl) a w
@[go_sem] theorem s41:qf.funcs[41]? = some f41:=by kernel_rfl
@[go_sem] theorem c41 (a w):(callFunc 41 a).run qf w=.ok (.enter 41 a) w:=qh s41 (by kernel_rfl) (by kernel_rfl) a w
@[go_sem] theorem s14:qf.funcs[14]? = some f14:=by kernel_rfl
@[go_sem] theorem c14 (a w):(callFunc 14 a).run qf w=.ok (.enter 14 a) w:=qh s14 (by kernel_rfl) (by kernel_rfl) a w
@[go_sem] theorem s58:qf.funcs[58]? = some f58:=by kernel_rfl
@[go_sem] theorem c58 (a w):(callFunc 58 a).run qf w=.ok (.enter 58 a) w:=qh s58 (by kernel_rfl) (by kernel_rfl) a w
end Go.Proofs.Tryz
namespace Go.Proofs.Tryz
open Go Go.Load Go.RowKit
def west:ByteArray:=⟨#[119,101,115,116]⟩
def east:ByteArray:=⟨#[101,97,115,116]⟩
def exB (g a b:Nat):Bk:=⟨(1,5),50,2,[⟨west,1,[(1,1),(1,2)],some ⟨a,0,none⟩,2⟩,⟨east,2,[(2,1),(1,1)],some ⟨b,0,none⟩,2⟩],some ⟨g,0,none⟩,2⟩
set_option maxHeartbeats 1000000 in
theorem qeV (a b:Int) (w:World):Calls qf 33 #[.int .i64 a,.int .i64 b] w fun e w'=>e=.returned (fv (a,b))∧Below w.heap.size w w':=by
 simp only [fv]
 go_enter s33,ntmps33
 go_wp2
 have c0:=qX w #[.int .i64 a,.int .i64 b] 23 0 (by simp)
 have c1:=qX w #[.int .i64 a,.int .i64 b] 23 1 (by simp)
 exact bodyPost_ret (QY results33 rfl (yZ ze qP c0 c1)) rfl ⟨rfl,(Below.refl _ w).alloc (Nat.le_refl _) _⟩
theorem XD {W:World} {a o b:Nat} {v0 v1 v2 v3 v4:Value} {l:List (Int×Int)} (h:qE W a o l) (e:a≠b):qE (set5 W b v0 v1 v2 v3 v4) a o l:=fun i x hx =>
 ⟨(qO (by show a≠b;exact e)).trans (h i x hx).1,(qO (by show a≠b;exact e)).trans (h i x hx).2⟩
theorem YP (W:World) (a b c d:Int) (ty:TypeId):qE (W.alloc (.cells #[.int .i64 a,.int .i64 b,.int .i64 c,.int .i64 d] ty)) W.heap.size 0 [(a,b),(c,d)]:=fun i x hx=>by
 have n:=fun j hj=>qX W #[.int .i64 a,.int .i64 b,.int .i64 c,.int .i64 d] ty j hj
 match i,hx with
 | 0,hx=>obtain rfl:=Option.some.inj hx;exact ⟨n 0 (by simp),n 1 (by simp)⟩
 | 1,hx=>obtain rfl:=Option.some.inj hx;exact ⟨n 2 (by simp),n 3 (by simp)⟩
set_option maxHeartbeats 400000 in
theorem Yk (w:World):Calls qf 32 #[] w fun e w'=>(∃g a b,e=.returned (bv (exB g a b))∧BookAt w' (exB g a b))∧Below w.heap.size w w':=by
 have hof:=fun a b W=>qeV a b W
 simp only [fv] at hof
 go_enter s32,ntmps32
 go_wp2
 go_at_call 33
 refine (hof _ _ _).mono ?_
 rintro e w1 ⟨rfl,h1⟩
 go_wp2
 go_at_call 33
 refine (hof _ _ _).mono ?_
 rintro e w2 ⟨rfl,h2⟩
 go_wp2
 go_at_call 33
 refine (hof _ _ _).mono ?_
 rintro e w3 ⟨rfl,h3⟩
 have F3:=(((Five.new w (.int .i64 0) (.int .i64 0) (.int .i64 0) (.int .i64 0) (.slice none 0 0) 26).keep h1).keep h2).keep h3
 have B3:=bcl (Below.call (Below.call ((Below.refl _ w).alloc (Nat.le_refl _) _) h1 (Nat.le_refl _)) h2 (Nat.le_refl _)) h3
 clear h1 h2 h3
 go_wp2
 go_at_call 33
 refine (hof _ _ _).mono ?_
 rintro e w4 ⟨rfl,h4⟩
 go_wp2
 go_at_call 33
 refine (hof _ _ _).mono ?_
 rintro e w5 ⟨rfl,h5⟩
 have F5:=((F3.keep ((Below.refl _ w3).alloc (Nat.le_refl _) (.cells #[.int .i64 1,.int .i64 1,.int .i64 1,.int .i64 2] 23))).keep h4).keep h5
 have B5:=bcl (Below.call (B3.alloc B3.size (.cells #[.int .i64 1,.int .i64 1,.int .i64 1,.int .i64 2] 23)) h4 (Nat.le_refl _)) h5
 have P5:qE w5 w3.heap.size 0 [(1,1),(1,2)]:=fun i x hx=>by
  have n:=fun j hj=>qX w3 #[.int .i64 1,.int .i64 1,.int .i64 1,.int .i64 2] 23 j hj
  match i,hx with
  | 0,hx=>obtain rfl:=Option.some.inj hx;exact ⟨qb _ h5 (qb _ h4 (n 0 (by decide))),qb _ h5 (qb _ h4 (n 1 (by decide)))⟩
  | 1,hx=>obtain rfl:=Option.some.inj hx;exact ⟨qb _ h5 (qb _ h4 (n 2 (by decide))),qb _ h5 (qb _ h4 (n 3 (by decide)))⟩
 have hw13:w.heap.size < w3.heap.size:=lt_of_cell F3.c.1
 clear F3 B3 h4 h5
 have F7:=(F5.keep ((Below.refl _ w5).alloc (Nat.le_refl _) (.cells #[.int .i64 2,.int .i64 1,.int .i64 1,.int .i64 1] 23))).keep ((Below.refl _ _).alloc (Nat.le_refl _) (.cells #[.string ⟨#[119,101,115,116]⟩,.int .i64 1,.slice (some ⟨w3.heap.size,0,none⟩) 2 2,.string ⟨#[101,97,115,116]⟩,.int .i64 2,.slice (some ⟨w5.heap.size,0,none⟩) 2 2] 56))
 have B7:=(B5.alloc B5.size (.cells #[.int .i64 2,.int .i64 1,.int .i64 1,.int .i64 1] 23)).alloc (by have:=B5.size;simp;omega) (.cells #[.string ⟨#[119,101,115,116]⟩,.int .i64 1,.slice (some ⟨w3.heap.size,0,none⟩) 2 2,.string ⟨#[101,97,115,116]⟩,.int .i64 2,.slice (some ⟨w5.heap.size,0,none⟩) 2 2] 56)
 obtain ⟨⟨c0,c1,c2,c3,c4⟩,⟨f0,f1,f2,f3,f4⟩⟩:=F7
 have P5:=Lib.hid P5
 have B7:=Lib.hid B7
 clear hof F5 B5
 go_wp2
 have P5:=P5.out
 have P6:=(YP w5 2 1 1 1 23)
 have hw3:w3.heap.size < w5.heap.size:=lt_of_cell (P5 0 _ rfl).1
 have hn:w.heap.size < w3.heap.size:=hw13
 refine qct results32 zV zH rfl c0 c1 c2 c3 c4 ⟨⟨w5.heap.size+1,w3.heap.size,w5.heap.size,rfl,?_⟩,Below.set5 B7.out (Nat.le_refl _)⟩
 have A1:Below w5.heap.size w5 (w5.alloc (.cells #[.int .i64 2,.int .i64 1,.int .i64 1,.int .i64 1] 23)):=(Below.refl _ w5).alloc (Nat.le_refl _) _
 have A2:∀(W:World) o,Below W.heap.size W (W.alloc o):=fun W o=>(Below.refl _ W).alloc (Nat.le_refl _) o
 refine ⟨fun _=>⟨w5.heap.size+1,0,rfl,fun i x hx=>?_⟩,fun x hx _=>?_,⟨by show (2:Nat)≤20;decide,fun x hx=>?_⟩,by show (2:Nat)≤2;decide⟩
 ·have n:=fun j hj=>QV (b:=w5.heap.size+1) (w5.alloc (.cells #[.int .i64 2,.int .i64 1,.int .i64 1,.int .i64 1] 23)) #[.string ⟨#[119,101,115,116]⟩,.int .i64 1,.slice (some ⟨w3.heap.size,0,none⟩) 2 2,.string ⟨#[101,97,115,116]⟩,.int .i64 2,.slice (some ⟨w5.heap.size,0,none⟩) 2 2] 56 j hj (by simp)
  have o:∀j,(⟨w5.heap.size+1,j,none⟩:Addr).block≠w.heap.size:=fun j=>by show w5.heap.size+1≠w.heap.size;omega
  match i,hx with
  | 0,hx=>obtain rfl:=Option.some.inj hx;exact ⟨(qO (o _)).trans (n 0 (by simp)),(qO (o _)).trans (n 1 (by simp)),(qO (o _)).trans (n 2 (by simp))⟩
  | 1,hx=>obtain rfl:=Option.some.inj hx;exact ⟨(qO (o _)).trans (n 3 (by simp)),(qO (o _)).trans (n 4 (by simp)),(qO (o _)).trans (n 5 (by simp))⟩
 ·rcases List.mem_cons.1 hx with rfl | hx
  ·exact ⟨w3.heap.size,0,rfl,XD ((P5.keep A1).keep (A2 _ _)) (by omega)⟩
  ·obtain rfl:=List.mem_singleton.1 hx
   exact ⟨w5.heap.size,0,rfl,XD (P6.keep (A2 _ _)) (by omega)⟩
 ·rcases List.mem_cons.1 hx with rfl | hx
  ·exact ⟨by show (2:Nat)≤20;decide,by show west.size≤100;decide⟩
  ·obtain rfl:=List.mem_singleton.1 hx
   exact ⟨by show (2:Nat)≤20;decide,by show east.size≤100;decide⟩
theorem Ju (T:Nat) (x:Int×Int) (h:zT x) (hT:T≤7) (w:World) :
 Calls qf 86 #[fv x,.int .i64 T,.func (.func 87) #[] #[]] w fun e w'=>e=.returned (tv (qW (low x.1 x.2) T) 0)∧Below w.heap.size w w':=by
 obtain ⟨k1,k2,k3,k4⟩:=jV h.1.1 h.1.2 h.2.1 h.2.2
 exact Jw _ (fun args w=>c87 args w) T x _ h hT (fun W=>Zr T _ k1 k2 k3 k4 hT W) w
theorem Jv (T:Nat) (x:Int×Int) (h:zT x) (hT:T≤7) (w:World) :
 Calls qf 86 #[fv x,.int .i64 T,.func (.func 88) #[] #[]] w fun e w'=>e=.returned (tv (qL (low x.1 x.2) T) 0)∧Below w.heap.size w w':=by
 obtain ⟨k1,k2,k3,k4⟩:=jV h.1.1 h.1.2 h.2.1 h.2.2
 exact Jw _ (fun args w=>c88 args w) T x _ h hT (fun W=>Qh T _ k1 k2 k3 k4 hT W) w
def xH (x:Int×Int) (T:Nat):Int×Int:=low (x.1 * (qL x T).2 - (qL x T).1 * x.2) (x.2 * (qL x T).2)
theorem xm {x:Int×Int} (h1:0≤x.1) (h2:x.1≤12) (h3:1≤x.2) (h4:x.2≤4) (T:Nat) (hT:T≤7):0≤(qL x T).1∧1≤(qL x T).2∧(qL x T).2≤655360000000∧(qL x T).1≤1966080000000∧(qL x T).1 * x.2≤x.1 * (qL x T).2:=by
 obtain ⟨q1,q2,q3,q4⟩:=jc h1 h2 h3 h4 T hT
 have hp:(40:Int) ^ T≤40 ^ 7:=by exact_mod_cast Nat.pow_le_pow_right (by decide) hT
 simp only [qL]
 generalize qW x T=q at *
 have q5:q.2≤163840000000:=Int.le_trans q4 (Int.le_trans hp (by decide))
 have m0:0≤x.1 * q.1:=Int.mul_nonneg h1 q1
 have m2:x.1 * q.1≤12 * q.2:=Int.le_trans (Int.mul_le_mul_of_nonneg_right h2 q1) (by omega)
 have m3:x.2 * q.2≤4 * q.2:=Int.mul_le_mul_of_nonneg_right h4 (by omega)
 have m4:0 < x.2 * q.2:=Int.mul_pos (by omega) (by omega)
 obtain ⟨t1,t2,t3,t4,_⟩:=xA m0 m4
 refine ⟨t1,t3,by omega,by omega,?_⟩
 have hg:=qbb (a:=x.1 * q.1) m4
 have e1:(low (x.1 * q.1) (x.2 * q.2)).1 * (Int.gcd (x.1 * q.1) (x.2 * q.2):Int)=x.1 * q.1:=Int.ediv_mul_cancel (Int.gcd_dvd_left ..)
 have e2:(low (x.1 * q.1) (x.2 * q.2)).2 * (Int.gcd (x.1 * q.1) (x.2 * q.2):Int)=x.2 * q.2:=Int.ediv_mul_cancel (Int.gcd_dvd_right ..)
 refine Int.le_of_mul_le_mul_right ?_ hg
 have c1:(low (x.1 * q.1) (x.2 * q.2)).1 * x.2 * (Int.gcd (x.1 * q.1) (x.2 * q.2):Int)=x.1 * q.1 * x.2:=by rw [Int.mul_right_comm,e1]
 have c2:x.1 * (low (x.1 * q.1) (x.2 * q.2)).2 * (Int.gcd (x.1 * q.1) (x.2 * q.2):Int)=x.1 * (x.2 * q.2):=by rw [Int.mul_assoc,e2]
 rw [c1,c2,Int.mul_assoc,Int.mul_comm q.1]
 exact Int.mul_le_mul_of_nonneg_left (Int.mul_le_mul_of_nonneg_left q2 (by omega)) h1
set_option maxHeartbeats 1000000 in
theorem qaS (T:Nat) (x:Int×Int) (h1:0≤x.1) (h2:x.1≤12) (h3:1≤x.2) (h4:x.2≤4) (hT:T≤7) (w:World) :
 Calls qf 89 #[fv x,.int .i64 T] w fun e w'=>e=.returned (fv (xH x T))∧Below w.heap.size w w':=by
 obtain ⟨q1,q2,q3,q4,q5⟩:=xm h1 h2 h3 h4 T hT
 have hlost:=fun W=>Qh T x h1 h2 h3 h4 hT W
 simp only [xH]
 generalize qL x T=q at *
 have m1:x.1 * q.2≤12 * q.2:=Int.mul_le_mul_of_nonneg_right h2 (by omega)
 have m2:x.2 * q.2≤4 * q.2:=Int.mul_le_mul_of_nonneg_right h4 (by omega)
 have hminus:=fun W=>qam x q W h1 (by omega) q1 (by omega) (by omega) (by omega) q5
 simp only [fv] at *
 clear m1 m2 q5
 go_enter s89,ntmps89
 go_wp2_with fail
 go_region_held3 (fun w'=>w'.cell? ⟨w.heap.size,0,none⟩=some (.int .i64 x.1)∧w'.cell? ⟨w.heap.size,1,none⟩=some (.int .i64 x.2)∧w'.frozen? ⟨w.heap.size+1,0,none⟩=false∧w'.frozen? ⟨w.heap.size+1,1,none⟩=false ∧
  w'.cell? ⟨w.heap.size+1,0,none⟩=some (atD w' ⟨w.heap.size+1,0,none⟩)∧w'.cell? ⟨w.heap.size+1,1,none⟩=some (atD w' ⟨w.heap.size+1,1,none⟩)∧Below w.heap.size w w')
  (first | exact ⟨by go_cell,by go_cell,by go_cell,by go_cell,qR (qx (v:=.int .i64 0) (by go_cell)),qR (qx (v:=.int .i64 0) (by go_cell)),by go_grown⟩ | exact held22 ‹_› hB | exact Xy _ _ ‹_› (by simp) (by simp)) (first | (go_at_call 88;refine (hlost _).mono ?_;rintro e w1 ⟨rfl,hB⟩) | (go_at_call 90;refine (hminus _).mono ?_;rintro e w1 ⟨rfl,hB⟩))
 go_wp2
 rename_i hH
 obtain ⟨c0,c1,hG⟩:=Xx hH
 exact yA results89 zW zI rfl c0 c1 ⟨rfl,hG⟩
theorem ZZ (T:Nat) (x:Int×Int) (h:zT x) (hT:T≤7) (w:World) :
 Calls qf 86 #[fv x,.int .i64 T,.func (.func 89) #[] #[]] w fun e w'=>e=.returned (tv (xH (low x.1 x.2) T) 0)∧Below w.heap.size w w':=by
 obtain ⟨k1,k2,k3,k4⟩:=jV h.1.1 h.1.2 h.2.1 h.2.2
 exact Jw _ (fun args w=>c89 args w) T x _ h hT (fun W=>qaS T _ k1 k2 k3 k4 hT W) w
def QL (what:Int×Int→Nat→Int×Int) (x:Int×Int) (T:Int):Value:=if zT x∧0≤T∧T≤7 then tv (what (low x.1 x.2) T.toNat) 0 else tv (0,0) 1
theorem qaC (T:Int) (x:Int×Int) (w:World):Calls qf 86 #[fv x,.int .i64 T,.func (.func 87) #[] #[]] w fun e w'=>e=.returned (QL qW x T)∧Below w.heap.size w w':=by
 unfold QL
 by_cases h:zT x∧0≤T∧T≤7
 ·obtain ⟨n,rfl⟩:=Int.eq_ofNat_of_zero_le h.2.1
  rw [if_pos h]
  exact Ju n x h.1 (by omega) w
 ·rw [if_neg h];exact qbF _ T x h w
theorem qgc (T:Int) (x:Int×Int) (w:World):Calls qf 86 #[fv x,.int .i64 T,.func (.func 88) #[] #[]] w fun e w'=>e=.returned (QL qL x T)∧Below w.heap.size w w':=by
 unfold QL
 by_cases h:zT x∧0≤T∧T≤7
 ·obtain ⟨n,rfl⟩:=Int.eq_ofNat_of_zero_le h.2.1
  rw [if_pos h]
  exact Jv n x h.1 (by omega) w
 ·rw [if_neg h];exact qbF _ T x h w
theorem qaB (T:Int) (x:Int×Int) (w:World):Calls qf 86 #[fv x,.int .i64 T,.func (.func 89) #[] #[]] w fun e w'=>e=.returned (QL xH x T)∧Below w.heap.size w w':=by
 unfold QL
 by_cases h:zT x∧0≤T∧T≤7
 ·obtain ⟨n,rfl⟩:=Int.eq_ofNat_of_zero_le h.2.1
  rw [if_pos h]
  exact ZZ n x h.1 (by omega) w
 ·rw [if_neg h];exact qbF _ T x h w
theorem Yj (what:Int×Int→Nat→Int×Int) (x:Int×Int) (T:Int):∃r a,QL what x T=tv r a:=by
 unfold QL;split <;> exact ⟨_,_,rfl⟩
set_option maxHeartbeats 1000000 in
theorem Loss_any (T:Int) (x:Int×Int) (w:World):Calls qf 34 #[fv x,.int .i64 T] w fun e w'=>e=.returned (QL qW x T)∧Below w.heap.size w w':=by
 have ht:=fun W=>qaC T x W
 obtain ⟨r,a,hr⟩:=Yj qW x T
 simp only [hr] at ht ⊢
 simp only [fv,tv] at *
 go_enter s34,ntmps34
 go_wp2_with (go_at_call 86;(with_reducible refine (ht _).mono ?_);rintro e w1 ⟨rfl,hB1⟩;(first | (replace hB:=bcl (by with_reducible assumption) hB1) | (replace hB:=bcl (by go_grown) hB1) | (have hB:=hB1));(try clear hc hg hz);obtain ⟨hc,hg⟩:=qy hB;have hz:=hB.size;clear hB1;(try simp at hz);(try have hlt0:w.heap.size < w1.heap.size:=by omega))
 have c0:w1.cell? ⟨w.heap.size+1,0,none⟩=some (.int .i64 0):=by rw [hc _ _ (by simp)];go_cell
 have c1:w1.cell? ⟨w.heap.size+1,1,none⟩=some (.int .i64 0):=by rw [hc _ _ (by simp)];go_cell
 have hp:=ZL (.int .i64 r.1) (.int .i64 r.2) c0 c1
 refine bodyPost_ret (qZ results34 rfl rfl (yZ ze qP hp.1 hp.2)) rfl ⟨rfl,?_⟩
 exact ((bcl (w:=w) (by go_grown) hB).setCell (by simp) _).setCell (by simp) _
set_option maxHeartbeats 1000000 in
theorem Lost_any (T:Int) (x:Int×Int) (w:World):Calls qf 35 #[fv x,.int .i64 T] w fun e w'=>e=.returned (QL qL x T)∧Below w.heap.size w w':=by
 have ht:=fun W=>qgc T x W
 obtain ⟨r,a,hr⟩:=Yj qL x T
 simp only [hr] at ht ⊢
 simp only [fv,tv] at *
 go_enter s35,ntmps35
 go_wp2_with (go_at_call 86;(with_reducible refine (ht _).mono ?_);rintro e w1 ⟨rfl,hB1⟩;(first | (replace hB:=bcl (by with_reducible assumption) hB1) | (replace hB:=bcl (by go_grown) hB1) | (have hB:=hB1));(try clear hc hg hz);obtain ⟨hc,hg⟩:=qy hB;have hz:=hB.size;clear hB1;(try simp at hz);(try have hlt0:w.heap.size < w1.heap.size:=by omega))
 have c0:w1.cell? ⟨w.heap.size+1,0,none⟩=some (.int .i64 0):=by rw [hc _ _ (by simp)];go_cell
 have c1:w1.cell? ⟨w.heap.size+1,1,none⟩=some (.int .i64 0):=by rw [hc _ _ (by simp)];go_cell
 have hp:=ZL (.int .i64 r.1) (.int .i64 r.2) c0 c1
 refine bodyPost_ret (qZ results35 rfl rfl (yZ ze qP hp.1 hp.2)) rfl ⟨rfl,?_⟩
 exact ((bcl (w:=w) (by go_grown) hB).setCell (by simp) _).setCell (by simp) _
set_option maxHeartbeats 1000000 in
theorem qaG (T:Int) (x:Int×Int) (w:World):Calls qf 36 #[fv x,.int .i64 T] w fun e w'=>e=.returned (QL xH x T)∧Below w.heap.size w w':=by
 have ht:=fun W=>qaB T x W
 obtain ⟨r,a,hr⟩:=Yj xH x T
 simp only [hr] at ht ⊢
 simp only [fv,tv] at *
 go_enter s36,ntmps36
 go_wp2_with (go_at_call 86;(with_reducible refine (ht _).mono ?_);rintro e w1 ⟨rfl,hB1⟩;(first | (replace hB:=bcl (by with_reducible assumption) hB1) | (replace hB:=bcl (by go_grown) hB1) | (have hB:=hB1));(try clear hc hg hz);obtain ⟨hc,hg⟩:=qy hB;have hz:=hB.size;clear hB1;(try simp at hz);(try have hlt0:w.heap.size < w1.heap.size:=by omega))
 have c0:w1.cell? ⟨w.heap.size+1,0,none⟩=some (.int .i64 0):=by rw [hc _ _ (by simp)];go_cell
 have c1:w1.cell? ⟨w.heap.size+1,1,none⟩=some (.int .i64 0):=by rw [hc _ _ (by simp)];go_cell
 have hp:=ZL (.int .i64 r.1) (.int .i64 r.2) c0 c1
 refine bodyPost_ret (qZ results36 rfl rfl (yZ ze qP hp.1 hp.2)) rfl ⟨rfl,?_⟩
 exact ((bcl (w:=w) (by go_grown) hB).setCell (by simp) _).setCell (by simp) _
def overN (m n:Int) (x:Int×Int):Value:=if (0≤m∧m≤7)∧0≤n∧n≤7 then QL qW x (m+n) else tv (0,0) 1
set_option maxHeartbeats 1000000 in
theorem Over_any (m n:Int) (x:Int×Int) (w:World):Calls qf 39 #[.int .i64 m,.int .i64 n,fv x] w fun e w'=>e=.returned (overN m n x)∧Below w.heap.size w w':=by
 unfold overN
 by_cases hm:0≤m∧m≤7
 ·by_cases hn:0≤n∧n≤7
  ·rw [if_pos ⟨hm,hn⟩]
   have ht:=fun W=>qaC (m+n) x W
   obtain ⟨r,a,hr⟩:=Yj qW x (m+n)
   simp only [hr] at ht ⊢
   simp only [fv,tv] at *
   go_enter s39,ntmps39
   go_wp2_with (first | (go_at_call 86;(with_reducible refine (ht _).mono ?_);rintro e w1 ⟨rfl,hB1⟩;(first | (replace hB:=bcl (by with_reducible assumption) hB1) | (replace hB:=bcl (by go_grown) hB1) | (have hB:=hB1));(try clear hc hg hz);obtain ⟨hc,hg⟩:=qy hB;have hz:=hB.size;clear hB1;(try simp at hz);(try have hlt0:w.heap.size < w1.heap.size:=by omega)) | (go_at_call 85;(with_reducible refine (zN _ _ hm).mono ?_);rintro e w1 ⟨rfl,rfl⟩) | (go_at_call 85;(with_reducible refine (zN _ _ hn).mono ?_);rintro e w1 ⟨rfl,rfl⟩))
   have c0:w1.cell? ⟨w.heap.size+1,0,none⟩=some (.int .i64 0):=by rw [hc _ _ (by simp)];go_cell
   have c1:w1.cell? ⟨w.heap.size+1,1,none⟩=some (.int .i64 0):=by rw [hc _ _ (by simp)];go_cell
   have hp:=ZL (.int .i64 r.1) (.int .i64 r.2) c0 c1
   refine bodyPost_ret (qZ results39 rfl rfl (yZ ze qP hp.1 hp.2)) rfl ⟨rfl,?_⟩
   exact ((bcl (w:=w) (by go_grown) hB).setCell (by simp) _).setCell (by simp) _
  ·rw [if_neg (fun h=>hn h.2)]
   simp only [fv,tv] at *
   go_enter s39,ntmps39
   go_wp2_with (first | (go_at_call 85;(with_reducible refine (zN _ _ hm).mono ?_);rintro e w1 ⟨rfl,rfl⟩) | (go_at_call 85;(with_reducible refine (jo _ _ hn).mono ?_);rintro e w1 ⟨rfl,rfl⟩))
   go_returns
   exact ⟨rfl,by go_grown⟩
 ·rw [if_neg (fun h=>hm h.1)]
  simp only [fv,tv] at *
  go_enter s39,ntmps39
  go_wp2_with (first | (go_at_call 85;(with_reducible refine (jo _ _ hm).mono ?_);rintro e w1 ⟨rfl,rfl⟩))
  go_returns
  exact ⟨rfl,by go_grown⟩
end Go.Proofs.Tryz
namespace Go.Proofs.Tryz
open Go Go.Load Go.RowKit Go.Instr
def kv (x:Int×Int) (T:Nat):Value:=.agg #[.int .i64 x.1,.int .i64 x.2,.int .i64 T]
theorem ck (e:Bool) (a b c:Int) (w:World):(checkKey e 10000 161 (.agg #[.int .i64 a,.int .i64 b,.int .i64 c])).run qf w=.ok () w:=by kernel_rfl
theorem sq151:qf.underlying 161=some (.struct (qf.fieldsOf 161)):=by kernel_rfl
theorem sp74:qf.underlying 72=some (.struct (qf.fieldsOf 72)):=by kernel_rfl
theorem hq151:qf.stoodInHeld 161=false:=by kernel_rfl
theorem hp74:qf.stoodInHeld 72=false:=by kernel_rfl
theorem eqp (d:Nat) (a b a' b':Int) (w:World):(Op.equalIn (d+2) 72 (.agg #[.int .i64 a,.int .i64 b]) (.agg #[.int .i64 a',.int .i64 b'])).run qf w=.ok (a == a' && b == b') w:=by
 rw [run_equalIn_agg w (d+1) 72 _ _ sp74 hp74]
 have e0:(Op.eqFields (d+1) #[.int .i64 a,.int .i64 b] #[.int .i64 a',.int .i64 b'] (qf.fieldsOf 72).toList).run qf w=(if (!(a == a'))=true then (pure false:Sem Bool) else Op.eqFields (d+1) #[.int .i64 a,.int .i64 b] #[.int .i64 a',.int .i64 b'] (qf.fieldsOf 72).toList.tail).run qf w:=by kernel_rfl
 rw [e0]
 cases h:(a == a') with
 | false=>simp
 | true =>
   have e1:(Op.eqFields (d+1) #[.int .i64 a,.int .i64 b] #[.int .i64 a',.int .i64 b'] (qf.fieldsOf 72).toList.tail).run qf w=(if (!(b == b'))=true then (pure false:Sem Bool) else pure true).run qf w:=by kernel_rfl
   simp only [Bool.not_true,Bool.false_eq_true,if_false]
   rw [e1]
   cases h:(b == b') <;> simp
theorem eqk (a b c a' b' c':Int) (w:World):(Op.equal 161 (.agg #[.int .i64 a,.int .i64 b,.int .i64 c]) (.agg #[.int .i64 a',.int .i64 b',.int .i64 c'])).run qf w=.ok ((a == a' && b == b') && c == c') w:=by
 show (Op.equalIn (9999+1) 161 _ _).run qf w=_
 rw [run_equalIn_agg w 9999 161 _ _ sq151 hq151]
 have e0:(Op.eqFields 9999 #[.int .i64 a,.int .i64 b,.int .i64 c] #[.int .i64 a',.int .i64 b',.int .i64 c'] (qf.fieldsOf 161).toList).run qf w=(Op.equalIn 9999 72 (.agg #[.int .i64 a,.int .i64 b]) (.agg #[.int .i64 a',.int .i64 b']) >>= fun r=>if (!r)=true then (pure false:Sem Bool) else Op.eqFields 9999 #[.int .i64 a,.int .i64 b,.int .i64 c] #[.int .i64 a',.int .i64 b',.int .i64 c'] (qf.fieldsOf 161).toList.tail).run qf w:=by kernel_rfl
 rw [e0,Sem.run_bind,show (9999:Nat)=9997+2 from rfl,eqp,Result.andThen_ok]
 cases h:(a == a' && b == b') with
 | false=>simp
 | true =>
   have e1:(Op.eqFields (9997+2) #[.int .i64 a,.int .i64 b,.int .i64 c] #[.int .i64 a',.int .i64 b',.int .i64 c'] (qf.fieldsOf 161).toList.tail).run qf w=(if (!(c == c'))=true then (pure false:Sem Bool) else pure true).run qf w:=by kernel_rfl
   simp only [Bool.not_true,Bool.false_eq_true,if_false]
   rw [e1]
   cases h:(c == c') <;> simp
theorem eqkv (p q:(Int×Int)×Nat) (w:World):(Op.equal 161 (kv p.1 p.2) (kv q.1 q.2)).run qf w=.ok (decide (p=q)) w:=by
 obtain ⟨⟨a,b⟩,c⟩:=p
 obtain ⟨⟨a',b'⟩,c'⟩:=q
 have e:((a == a' && b == b') && (c:Int) == (c':Int))=decide (((a,b),c)=((a',b'),c')):=by
  rw [Bool.eq_iff_iff]
  simp only [Bool.and_eq_true,beq_iff_eq,decide_eq_true_eq,Prod.mk.injEq,Int.natCast_inj]
 show (Op.equal 161 (.agg #[.int .i64 a,.int .i64 b,.int .i64 c]) (.agg #[.int .i64 a',.int .i64 b',.int .i64 c'])).run qf w=_
 rw [eqk,e]
def Ents (es:List MapEntry) (L:List ((Int×Int)×Nat)):Prop:=es.map (fun e=>(e.key,e.val))=L.map fun p=>(kv p.1 p.2,fv (qL p.1 p.2))
theorem qce (p:(Int×Int)×Nat):∀(es:List MapEntry) (L:List ((Int×Int)×Nat)) (i:Nat) (w:World),Ents es L→∃r,(findAsking 161 (kv p.1 p.2) es i).run qf w=.ok r w∧(p∈L→∃j,r=some (j,fv (qL p.1 p.2)))∧(p∉L→r=none)
 | [],L,i,w,h=>by
   cases L with
   | nil=>exact ⟨none,rfl,(fun h=>absurd h List.not_mem_nil),fun _=>rfl⟩
   | cons q L=>simp [Ents] at h
 | e :: es,L,i,w,h=>by
   cases L with
   | nil=>simp [Ents] at h
   | cons q L =>
     simp only [Ents,List.map_cons,List.cons.injEq,Prod.mk.injEq] at h
     obtain ⟨⟨hk,hv⟩,ht⟩:=h
     obtain ⟨r,h1,h2,h3⟩:=qce p es L (i+1) w ht
     unfold findAsking
     rw [Sem.run_bind,hk,eqkv,Result.andThen_ok]
     by_cases hpq:p=q
     ·subst hpq
      exact ⟨_,by rw [if_pos (by simp)];rfl,fun _=>⟨i,by rw [hv]⟩,fun h=>absurd List.mem_cons_self h⟩
     ·refine ⟨r,by rw [if_neg (by simpa using hpq)];exact h1,fun h=>h2 ?_,fun h=>h3 fun h'=>h (List.mem_cons_of_mem _ h')⟩
      rcases List.mem_cons.1 h with h | h
      ·exact absurd h hpq
      ·exact h
theorem YB (p:(Int×Int)×Nat) (es:List MapEntry) (L:List ((Int×Int)×Nat)) (w:World) (h:Ents es L):∃r,(findKey 161 (kv p.1 p.2) es).run qf w=.ok r w∧(p∈L→∃j,r=some (j,fv (qL p.1 p.2)))∧(p∉L→r=none):=by
 unfold findKey
 rw [Sem.run_bind]
 rw [run_underlying sq151,Result.andThen_ok]
 cases es with
 | nil =>
   cases L with
   | nil=>exact ⟨none,rfl,(fun h=>absurd h List.not_mem_nil),fun _=>rfl⟩
   | cons q L=>simp [Ents] at h
 | cons e es=>exact qce p (e :: es) L 0 w h
def JB (W:World) (m:Nat) (L:List ((Int×Int)×Nat)):Prop:=∃es clock,W.heap[m]? = some (.map es clock)∧Ents es.toList L
theorem qde {W:World} {m:Nat} {L:List ((Int×Int)×Nat)} (h:JB W m L) (x:Int×Int) (T:Nat):(Instr.lookup 112 (.map (some m)) (.agg #[.int .i64 x.1,.int .i64 x.2,.int .i64 T]) true).run qf W=.ok (if (x,T)∈L then .tuple #[fv (qL x T),.bool true] else .tuple #[fv (0,0),.bool false]) W:=by
 obtain ⟨es,clock,h1,h2⟩:=h
 obtain ⟨r,hr,h3,h4⟩:=YB (x,T) es.toList L W h2
 unfold Instr.lookup
 have hu:(Go.underlying 112).run qf W=.ok (.map 161 72) W:=by kernel_rfl
 have hg:(getObj m).run qf W=.ok (.map es clock) W:=by simp [getObj,Sem.run,h1]
 have hz:(zeroValue 72).run qf W=.ok (fv (0,0)) W:=by kernel_rfl
 simp only [Sem.run_bind,hu,hg,Result.andThen_ok,Sem.run_pure,ck]
 show ((findKey 161 (kv x T) es.toList).run qf W).andThen _=_
 rw [hr,Result.andThen_ok]
 by_cases hm:(x,T)∈L
 ·obtain ⟨j,rfl⟩:=h3 hm
  simp [hm]
 ·obtain rfl:=h4 hm
  simp [hm,hz]
theorem qdE {W:World} {m:Nat} {L:List ((Int×Int)×Nat)} (h:JB W m L) (x:Int×Int) (T:Nat) (hn:(x,T)∉L):∃W1,(Instr.mapUpdate 112 (.map (some m)) (.agg #[.int .i64 x.1,.int .i64 x.2,.int .i64 T]) (fv (qL x T))).run qf W=.ok () W1∧JB W1 m (L ++ [(x,T)])∧W.grownBy W1 (some m)∧W1.heap.size=W.heap.size:=by
 obtain ⟨es,clock,h1,h2⟩:=h
 obtain ⟨r,hr,h3,h4⟩:=YB (x,T) es.toList L W h2
 obtain rfl:=h4 hn
 have hu:(Go.underlying 112).run qf W=.ok (.map 161 72) W:=by kernel_rfl
 have hg:(getObj m).run qf W=.ok (.map es clock) W:=by simp [getObj,Sem.run,h1]
 have hlt:m < W.heap.size:=(Array.getElem?_eq_some_iff.1 h1).1
 refine ⟨W.putObj m (.map (es.push { key:=kv x T,val:=fv (qL x T),born:=clock }) (clock+1)),?_,⟨_,_,World.putObj_heap_same hlt,?_⟩,grownBy_putObj' W _ _,by simp [World.putObj]⟩
 ·unfold Instr.mapUpdate
  simp only [Sem.run_bind,hu,hg,Result.andThen_ok,ck]
  show ((findKey 161 (kv x T) es.toList).run qf W).andThen _=_
  rw [hr,Result.andThen_ok]
  show (setObj m _).run qf W=_
  unfold setObj
  simp [Sem.run,h1,World.putObj]
  rfl
 ·unfold Ents at h2 ⊢
  simp [h2]
def ZE (m:Nat) (w w':World):Prop:=(∃L,JB w' m L)∧w.grownBy w' (some m)
theorem JB.block {W W1:World} {m:Nat} {L:List ((Int×Int)×Nat)} (h:JB W m L) (e:W1.heap[m]? = W.heap[m]?):JB W1 m L:=by
 obtain ⟨es,c,h1,h2⟩:=h
 exact ⟨es,c,e.trans h1,h2⟩
theorem JB.lt {W:World} {m:Nat} {L:List ((Int×Int)×Nat)} (h:JB W m L):m < W.heap.size:=by
 obtain ⟨es,c,h1,h2⟩:=h
 exact (Array.getElem?_eq_some_iff.1 h1).1
theorem JB.keep {W W1:World} {m:Nat} {L:List ((Int×Int)×Nat)} (h:JB W m L) (hB:Below W.heap.size W W1):JB W1 m L:=h.block (hB.block m h.lt)
theorem zM {w w1 w2:World} {r:Option Nat} (h:w.grownBy w1 r) (k:w1.grownBy w2 r):w.grownBy w2 r :=
 ⟨k.os.trans h.os,k.tape.trans h.tape,k.output.trans h.output,Nat.le_trans h.size k.size,fun b hb hr=>(k.block b (Nat.lt_of_lt_of_le hb h.size) hr).trans (h.block b hb hr)⟩
theorem zi {w w1:World} {r:Option Nat} (h:Below w.heap.size w w1):w.grownBy w1 r:=⟨h.os,h.tape,h.output,h.size,fun k hk _=>h.block k hk⟩
theorem yO {w w1:World} {r:Option Nat} (h:w.grownBy w1 r) {p:Addr} (hp:w.heap.size≤p.block) (v:Value):w.grownBy (w1.setCell p v) r :=
 ⟨h.os,h.tape,h.output,by simpa using h.size,fun k hk hr=>(Below.heap_setCell _ _ _ _ (by omega)).trans (h.block k hk hr)⟩
theorem qp {w w1:World} {m:Nat} (h:w.grownBy w1 (some m)) {p:Addr} {v:Value} (hc:w.cell? p=some v) (hp:p.block≠m):w1.cell? p=some v:=h.cell hc (by simpa using hp)
theorem qC {w w1:World} {m:Nat} (h:w.grownBy w1 (some m)) {p:Addr} {v:Value} (hc:w.cell? p=some v) (hf:w.frozen? p=false) (hp:p.block≠m):w1.frozen? p=false :=
 (World.frozen?_of_block (w:=w) (h.block p.block (lt_of_cell hc) (by simpa using hp))).trans hf
set_option maxHeartbeats 2000000 in
set_option maxRecDepth 100000 in
theorem lost_any (m:Nat) (L:List ((Int×Int)×Nat)) (T:Nat) (x:Int×Int) (h1:0≤x.1) (h2:x.1≤12) (h3:1≤x.2) (h4:x.2≤4) (hT:T≤7) (w:World) (hL:JB w m L) :
 Calls qf 131 #[.map (some m),fv x,.int .i64 T] w fun e w'=>e=.returned (fv (qL x T))∧ZE m w w':=by
 have hlo:=fun W=>Qh T x h1 h2 h3 h4 hT W
 have hlt:=hL.lt
 have HL:=Lib.hid fun (W:World) (h:JB W m L)=>qde h x T
 have HU:=Lib.hid fun (W:World) (h:JB W m L) (hn:(x,T)∉L)=>qdE h x T hn
 generalize qL x T=r at *
 simp only [fv] at *
 have HM:=Lib.hid hL
 clear hL
 have pre:∀{W:World},Below w.heap.size w W→ZE m w W:=fun hB=>⟨⟨L,HM.out.keep hB⟩,zi hB⟩
 by_cases hin:(x,T)∈L
 ·go_enter s131,ntmps131
  go_wp2
  obtain ⟨W,hW⟩:∃W,((w.alloc (Obj.cells #[.int .i64 x.1,.int .i64 x.2] 72)).alloc (Obj.cells #[.int .i64 0,.int .i64 0] 72)).alloc (Obj.cells #[.int .i64 x.1,.int .i64 x.2,.int .i64 T] 161)=W:=⟨_,rfl⟩
  have hB:Below w.heap.size w W:=by subst hW;go_grown
  have c0:W.cell? ⟨w.heap.size+1,0,none⟩=some (.int .i64 0):=by subst hW;go_cell
  have c1:W.cell? ⟨w.heap.size+1,1,none⟩=some (.int .i64 0):=by subst hW;go_cell
  have f0:W.frozen? ⟨w.heap.size+1,0,none⟩=false:=by subst hW;go_cell
  have f1:W.frozen? ⟨w.heap.size+1,1,none⟩=false:=by subst hW;go_cell
  have hs:w.heap.size+1 < W.heap.size:=by subst hW;simp
  rw [hW]
  clear hW
  rw [HL.out W (HM.out.keep hB),if_pos hin]
  go_wp2
  have hp:=ZL (.int .i64 r.1) (.int .i64 r.2) c0 c1
  refine bodyPost_ret (QY results131 rfl (yZ zW zI (qi hp.1) (qi hp.2))) rfl ⟨rfl,pre ?_⟩
  exact ((hB.setCell (p:=⟨w.heap.size+1,0,none⟩) (Nat.le_succ _) _).setCell (p:=⟨w.heap.size+1,1,none⟩) (Nat.le_succ _) _).alloc (by simp;omega) _
 ·go_enter s131,ntmps131
  go_wp2
  obtain ⟨W,hW⟩:∃W,((w.alloc (Obj.cells #[.int .i64 x.1,.int .i64 x.2] 72)).alloc (Obj.cells #[.int .i64 0,.int .i64 0] 72)).alloc (Obj.cells #[.int .i64 x.1,.int .i64 x.2,.int .i64 T] 161)=W:=⟨_,rfl⟩
  have hB:Below w.heap.size w W:=by subst hW;go_grown
  have a0:W.cell? ⟨w.heap.size,0,none⟩=some (.int .i64 x.1):=by subst hW;go_cell
  have a1:W.cell? ⟨w.heap.size,1,none⟩=some (.int .i64 x.2):=by subst hW;go_cell
  have c0:W.cell? ⟨w.heap.size+1,0,none⟩=some (.int .i64 0):=by subst hW;go_cell
  have c1:W.cell? ⟨w.heap.size+1,1,none⟩=some (.int .i64 0):=by subst hW;go_cell
  have f0:W.frozen? ⟨w.heap.size+1,0,none⟩=false:=by subst hW;go_cell
  have f1:W.frozen? ⟨w.heap.size+1,1,none⟩=false:=by subst hW;go_cell
  have q0:W.cell? ⟨w.heap.size+1+1,0,none⟩=some (.int .i64 x.1):=by subst hW;go_cell
  have q1:W.cell? ⟨w.heap.size+1+1,1,none⟩=some (.int .i64 x.2):=by subst hW;go_cell
  have q2:W.cell? ⟨w.heap.size+1+1,2,none⟩=some (.int .i64 T):=by subst hW;go_cell
  have hs:w.heap.size+1+1 < W.heap.size:=by subst hW;simp
  have hs1:w.heap.size+1 < W.heap.size:=by omega
  have hs2:w.heap.size < W.heap.size:=by omega
  rw [hW]
  clear hW
  rw [HL.out W (HM.out.keep hB),if_neg hin]
  go_wp2_with (go_at_call 88;refine (hlo _).mono ?_;rintro e w1 ⟨rfl,hB1⟩;have z0:=qb ⟨W.heap.size,0,none⟩ hB1 (v:=.int .i64 0) (by go_cell);have z1:=qb ⟨W.heap.size,1,none⟩ hB1 (v:=.int .i64 0) (by go_cell);have y0:=qg ⟨W.heap.size,0,none⟩ hB1 (v:=.int .i64 0) (by go_cell) (by go_cell);have y1:=qg ⟨W.heap.size,1,none⟩ hB1 (v:=.int .i64 0) (by go_cell) (by go_cell);have c0:=qb _ hB1 (qi c0);have c1:=qb _ hB1 (qi c1);have f0:=qg _ hB1 (qi ‹W.cell? ⟨w.heap.size+1,0,none⟩=_›) (qm ‹W.cell? ⟨w.heap.size+1,0,none⟩=_› f0);have f1:=qg _ hB1 (qi ‹W.cell? ⟨w.heap.size+1,1,none⟩=_›) (qm ‹W.cell? ⟨w.heap.size+1,1,none⟩=_› f1);have q0:=qb _ hB1 (qi q0);have q1:=qb _ hB1 (qi q1);have q2:=qb _ hB1 (qi q2);have hz:=hB1.size;simp at hz;have hBx:=bcl (w:=w) (by go_grown) hB1)
  obtain ⟨W2,hW2⟩:∃W2,(w1.setCell ⟨W.heap.size,0,none⟩ (.int .i64 r.1)).setCell ⟨W.heap.size,1,none⟩ (.int .i64 r.2)=W2:=⟨_,rfl⟩
  have hB2:Below w.heap.size w W2:=by subst hW2;exact (hBx.setCell (by simp <;> omega) _).setCell (by simp <;> omega) _
  have z0':W2.cell? ⟨W.heap.size,0,none⟩=some (.int .i64 r.1):=by subst hW2;exact (ZL _ _ z0 z1).1
  have z1':W2.cell? ⟨W.heap.size,1,none⟩=some (.int .i64 r.2):=by subst hW2;exact (ZL _ _ z0 z1).2
  have nq:∀i j k,k≠W.heap.size→(⟨W.heap.size,i,none⟩:Addr)≠⟨k,j,none⟩:=fun i j k h e=>h (congrArg Addr.block e).symm
  have c0:W2.cell? ⟨w.heap.size+1,0,none⟩=some (.int .i64 0):=by subst hW2;exact qc (nq _ _ _ (by omega)) (qc (nq _ _ _ (by omega)) c0)
  have c1:W2.cell? ⟨w.heap.size+1,1,none⟩=some (.int .i64 0):=by subst hW2;exact qc (nq _ _ _ (by omega)) (qc (nq _ _ _ (by omega)) c1)
  have f0:W2.frozen? ⟨w.heap.size+1,0,none⟩=false:=by subst hW2;simpa using f0
  have f1:W2.frozen? ⟨w.heap.size+1,1,none⟩=false:=by subst hW2;simpa using f1
  rw [hW2]
  obtain ⟨W3,h3,h4,h5,h6⟩:=HU.out W2 (HM.out.keep hB2) hin
  rw [h3]
  have hmw:m≠W.heap.size:=by omega
  have hmw1:m≠w.heap.size+1:=by omega
  have z0':=qp h5 z0' (Ne.symm hmw)
  have z1':=qp h5 z1' (Ne.symm hmw)
  have f0:=qC h5 c0 f0 (Ne.symm hmw1)
  have f1:=qC h5 c1 f1 (Ne.symm hmw1)
  have c0:=qp h5 c0 (Ne.symm hmw1)
  have c1:=qp h5 c1 (Ne.symm hmw1)
  clear h3 hW2 hB1 hBx
  go_wp2
  refine yA results131 zW zI rfl c0 c1 ⟨rfl,⟨L ++ [(x,T)],?_⟩,?_⟩
  ·exact h4.block ((Below.heap_setCell _ _ _ _ (by simp <;> omega)).trans (Below.heap_setCell _ _ _ _ (by simp <;> omega)))
  ·exact yO (yO (zM (zi hB2) h5) (p:=⟨w.heap.size+1,0,none⟩) (Nat.le_succ _) _) (p:=⟨w.heap.size+1,1,none⟩) (Nat.le_succ _) _
theorem sp23:qf.underlying 23=some (.struct (qf.fieldsOf 23)):=by kernel_rfl
theorem hp23:qf.stoodInHeld 23=false:=by kernel_rfl
theorem eqf (d:Nat) (a b a' b':Int) (w:World):(Op.equalIn (d+2) 23 (.agg #[.int .i64 a,.int .i64 b]) (.agg #[.int .i64 a',.int .i64 b'])).run qf w=.ok (a == a' && b == b') w:=by
 rw [run_equalIn_agg w (d+1) 23 _ _ sp23 hp23]
 have e0:(Op.eqFields (d+1) #[.int .i64 a,.int .i64 b] #[.int .i64 a',.int .i64 b'] (qf.fieldsOf 23).toList).run qf w=(if (!(a == a'))=true then (pure false:Sem Bool) else Op.eqFields (d+1) #[.int .i64 a,.int .i64 b] #[.int .i64 a',.int .i64 b'] (qf.fieldsOf 23).toList.tail).run qf w:=by kernel_rfl
 rw [e0]
 cases h:(a == a') with
 | false=>simp
 | true =>
   have e1:(Op.eqFields (d+1) #[.int .i64 a,.int .i64 b] #[.int .i64 a',.int .i64 b'] (qf.fieldsOf 23).toList.tail).run qf w=(if (!(b == b'))=true then (pure false:Sem Bool) else pure true).run qf w:=by kernel_rfl
   simp only [Bool.not_true,Bool.false_eq_true,if_false]
   rw [e1]
   cases h:(b == b') <;> simp
@[go_sem] theorem eqf_run (a b a' b':Int) (w:World):(Op.equalIn 10000 23 (.agg #[.int .i64 a,.int .i64 b]) (.agg #[.int .i64 a',.int .i64 b'])).run qf w=.ok (a == a' && b == b') w:=eqf 9998 a b a' b' w
@[go_sem] theorem neqf_run (a b a' b':Int) (w:World):(binOp .neq 23 (.agg #[.int .i64 a,.int .i64 b]) (.agg #[.int .i64 a',.int .i64 b'])).run qf w=.ok (.bool (!(a == a' && b == b'))) w:=by
  rw [run_neq_struct,eqf_run];rfl
theorem hm23:qf.eqGuardType qf.depth 23=false:=by kernel_rfl
@[go_sem] theorem guardf_run (op:BinOp) (p q:Operand) (xs ys:Array Value) (w:World):(eqGuard op 23 p q (.agg xs) (.agg ys)).run qf w=.ok () w:=run_eqGuard_agg w op _ p q xs ys hm23
def yF (w:World) (v:Value) (L:List (Int×Int)):Prop:=∃a c,v=.slice a L.length c∧(1≤L.length→∃b o,a=some ⟨b,o,none⟩∧qE w b o L)
set_option maxHeartbeats 2000000 in
set_option maxRecDepth 100000 in
theorem xq (va vb:Value) (A B:List (Int×Int)) (w:World) (hA:yF w va A) (hB:yF w vb B) (h1:A.length≤100) (h2:B.length≤100):Calls qf 41 #[va,vb] w fun e w'=>e=.returned (.bool (decide (A=B)))∧Below w.heap.size w w':=by
 obtain ⟨aa,ca,rfl,ha⟩:=hA
 obtain ⟨ab,cb,rfl,hb⟩:=hB
 have HA:=Lib.hid ha
 have HB:=Lib.hid hb
 clear ha hb
 by_cases hl:A.length=B.length
 ·have hli:(A.length:Int)=(B.length:Int):=by omega
  have HL:=Lib.hid hl
  clear hl
  go_enter s41,ntmps41
  go_wp2
  go_loopw [5] (fun i wr=>∃k:Nat,i=.int .i64 k∧k≤A.length∧Below w.heap.size w wr∧Hid (∀j,j < k→A[j]? = B[j]?)) (fun i _=>A.length - (intOf i).toNat)
  case atStart=>exact ⟨0,rfl,by omega,.refl _ _,Lib.hid fun j hj=>absurd hj (by omega)⟩
  case round =>
   obtain ⟨k,rfl,hk,hBr,HK⟩:=hrel
   have hk0:(0:Int)≤(k:Int):=Int.natCast_nonneg k
   by_cases l1:k < A.length
   ·have l2:k < B.length:=by have:=HL.out;omega
    obtain ⟨x,hx⟩:∃x,A[k]? = some x:=⟨A[k],by simp [l1]⟩
    obtain ⟨y,hy⟩:∃y,B[k]? = some y:=⟨B[k],by simp [l2]⟩
    obtain ⟨ba,oa,rfl,ra⟩:=HA.out (by omega)
    obtain ⟨bb,ob,rfl,rb⟩:=HB.out (by omega)
    obtain ⟨a0,a1⟩:=ra k x hx
    obtain ⟨b0,b1⟩:=rb k y hy
    have a0:=qb _ hBr a0
    have a1:=qb _ hBr a1
    have b0:=qb _ hBr b0
    have b1:=qb _ hBr b1
    have i1:(k:Int) < (A.length:Int):=by omega
    have i2:(k:Int) < (B.length:Int):=by omega
    have HX:=Lib.hid (And.intro hx hy)
    clear ra rb hx hy hli
    by_cases e:x=y
    ·subst e
     have hq:(!(x.1 == x.1 && x.2 == x.2))=false:=by simp
     go_wp2
     go_region
     go_wp2
     go_roundw
     case rel=>exact ⟨k+1,rfl,by omega,(by first | exact hBr.drew | exact below_drewN hBr _ | go_grown),Lib.hid fun j hj=>by
      by_cases e:j=k
      ·subst e;rw [HX.out.1,HX.out.2]
      ·exact HK.out j (by omega)⟩
     case measure=>simp [intOf];omega
    ·have hq:(x.1 == y.1 && x.2 == y.2)=false:=by
      cases hq:(x.1 == y.1 && x.2 == y.2) with
      | false=>rfl
      | true=>simp at hq;exact absurd (Prod.ext hq.1 hq.2) e
     have HN:Hid (decide (A=B)=false):=Lib.hid (decide_eq_false fun h=>e (by rw [h] at HX;exact Option.some.inj (HX.out.1.symm.trans HX.out.2)))
     go_wp2
     go_region
     go_wp2
     go_ret
     exact ⟨by rw [HN.out];rfl,(by first | exact hBr.drew | exact below_drewN hBr _ | go_grown)⟩
   ·have i1:¬ (k:Int) < (A.length:Int):=by omega
    have HT:Hid (decide (A=B)=true):=Lib.hid (decide_eq_true (List.ext_getElem? fun j=>by
     by_cases hj:j < k
     ·exact HK.out j hj
     ·rw [List.getElem?_eq_none (by omega),List.getElem?_eq_none (by have:=HL.out;omega)]))
    go_wp2
    go_ret
    exact ⟨by rw [HT.out];rfl,hBr⟩
 ·have hli:((A.length:Int) != (B.length:Int))=true:=bne_iff_ne.2 (by omega)
  have HN:Hid (decide (A=B)=false):=Lib.hid (decide_eq_false fun e=>hl (by rw [e]))
  clear hl
  go_enter s41,ntmps41
  go_wp2
  go_ret
  exact ⟨by rw [HN.out];rfl,.refl _ _⟩
end Go.Proofs.Tryz
namespace Go.Proofs.Tryz
open Go Go.Load Go.RowKit
def redN (a b:Nat):Int×Int:=(((a / Nat.gcd a b:Nat):Int),((b / Nat.gcd a b:Nat):Int))
set_option maxHeartbeats 1000000 in
theorem qaK (a b:Nat) (w:World) (ha:a < 4611686018427387904) (hb:1≤b∧b < 4611686018427387904):Calls qf 123 #[.int .i64 a,.int .i64 b] w fun e w'=>e=.returned (fv (redN a b))∧Below w.heap.size w w':=by
 have HG:Hid (1≤Nat.gcd a b):=Lib.hid (Nat.gcd_pos_of_pos_right _ hb.1)
 simp only [fv]
 go_enter s123,ntmps123
 go_wp2
 go_loopw [5,6] (fun p q wr=>∃u v:Nat,p=.int .i64 u∧q=.int .i64 v∧u < 4611686018427387904∧v < 4611686018427387904∧Hid (Nat.gcd u v=Nat.gcd a b)∧Below w.heap.size w wr∧wr.cell? ⟨w.heap.size,0,none⟩=some (.int .i64 0)∧wr.cell? ⟨w.heap.size,1,none⟩=some (.int .i64 0)∧wr.frozen? ⟨w.heap.size,0,none⟩=false∧wr.frozen? ⟨w.heap.size,1,none⟩=false) (fun _ q _=>(intOf q).toNat)
 case atStart=>exact ⟨a,b,rfl,rfl,ha,hb.2,Lib.hid rfl,by go_grown,by go_cell,by go_cell,by go_cell,by go_cell⟩
 case round =>
  obtain ⟨u,v,rfl,rfl,hu,hv,HUV,hBr,c0,c1,f0,f1⟩:=hrel
  have hu0:(0:Int)≤(u:Int):=Int.natCast_nonneg u
  have hv0:(0:Int)≤(v:Int):=Int.natCast_nonneg v
  by_cases h:0 < v
  ·have h1:(0:Int) < (v:Int):=by omega
   have h2:((v:Int) == 0)=false:=by rw [beq_eq_false_iff_ne];omega
   go_wp2
   go_region
   go_wp2
   go_roundw
   case rel=>exact ⟨v,u % v,rfl,by rw [Int.natCast_emod],hv,Nat.lt_of_lt_of_le (Nat.mod_lt _ h) (by omega),Lib.hid (by rw [← HUV.out,Nat.gcd_comm v,← Nat.gcd_rec,Nat.gcd_comm]),hBr.drew,c0,c1,f0,f1⟩
   case measure =>
    have:=Nat.mod_lt u h
    have e:((u:Int) % (v:Int))=((u % v:Nat):Int):=(Int.natCast_emod u v).symm
    show ((u:Int) % (v:Int)).toNat < (v:Int).toNat
    rw [e,Int.toNat_natCast,Int.toNat_natCast];exact this
  ·obtain rfl:v=0:=by omega
   have hg:u=Nat.gcd a b:=by rw [← HUV.out];simp
   have hu1:(1:Int)≤(u:Int):=by have:=HG.out;omega
   have hu2:((u:Int) == 0)=false:=by rw [beq_eq_false_iff_ne];omega
   have q0:=Int.ediv_nonneg (show (0:Int)≤(a:Int) by omega) (show (0:Int)≤(u:Int) by omega)
   have q1:=Int.ediv_le_self (u:Int) (show (0:Int)≤(a:Int) by omega)
   have q2:=Int.ediv_nonneg (show (0:Int)≤(b:Int) by omega) (show (0:Int)≤(u:Int) by omega)
   have q3:=Int.ediv_le_self (u:Int) (show (0:Int)≤(b:Int) by omega)
   have e1:(redN a b).1=(a:Int) / (u:Int):=by rw [hg];simp [redN]
   have e2:(redN a b).2=(b:Int) / (u:Int):=by rw [hg];simp [redN]
   have E1:=Lib.hid e1
   have E2:=Lib.hid e2
   have HQ:=Lib.hid hg
   clear e1 e2
   clear hg
   go_wp2
   go_region
   go_wp2
   exact yA (w1:=wr.drew) (b:=w.heap.size) (v0:=.int .i64 ((a:Int) / (u:Int))) (v1:=.int .i64 ((b:Int) / (u:Int))) results123 ze qP rfl c0 c1 ⟨by rw [E1.out,E2.out],(hBr.drew.setCell (Nat.le_refl _) _).setCell (Nat.le_refl _) _⟩
def fairN (x:Int×Int):Bool:=x == redN x.1.toNat x.2.toNat
structure KSt (w W:World) (l:List (Addr×Value)):Prop where
 cs:∀p∈l,W.cell? p.1=some p.2
 gl:Globs W
 bw:Below w.heap.size w W
section
variable {w W w1:World} {l:List (Addr×Value)}
theorem KSt.call (h:KSt w W l) (hB:Below W.heap.size W w1):KSt w w1 l:=⟨fun p hp=>qb _ hB (h.cs p hp),h.gl.keep hB,bcl h.bw hB⟩
theorem KSt.box2 (h:KSt w W l) (x y:Value) (t:TypeId):KSt w (W.alloc (.cells #[x,y] t)) ((⟨W.heap.size,0,none⟩,x) :: (⟨W.heap.size,1,none⟩,y) :: l):=by
 have hB:Below W.heap.size W (W.alloc (.cells #[x,y] t)):=(Below.refl _ W).alloc (Nat.le_refl _) _
 have h':=h.call hB
 refine ⟨fun p hp=>?_,h'.gl,h'.bw⟩
 rcases List.mem_cons.1 hp with rfl | hp
 ·exact qX W #[x,y] t 0 (by simp)
 rcases List.mem_cons.1 hp with rfl | hp
 ·exact qX W #[x,y] t 1 (by simp)
 ·exact h'.cs p hp
theorem KSt.c2 {p q:Addr} {x y:Value} (h:KSt w W ((p,x) :: (q,y) :: l)):(W.cell? p=some x∧W.cell? q=some y)∧KSt w W l:=⟨⟨h.cs (p,x) (by simp),h.cs (q,y) (by simp)⟩,fun r hr=>h.cs r (by simp [hr]),h.gl,h.bw⟩
theorem KSt.c5 {p q r s t:Addr} {x y z u v:Value} (h:KSt w W ((p,x) :: (q,y) :: (r,z) :: (s,u) :: (t,v) :: l)):(W.cell? p=some x∧W.cell? q=some y∧W.cell? r=some z∧W.cell? s=some u∧W.cell? t=some v)∧KSt w W l:=⟨⟨h.cs (p,x) (by simp),h.cs (q,y) (by simp),h.cs (r,z) (by simp),h.cs (s,u) (by simp),h.cs (t,v) (by simp)⟩,fun r hr=>h.cs r (by simp [hr]),h.gl,h.bw⟩
end
theorem yJ (a b c:Int) (w:World) (h:b≤a∧a≤c):Calls qf 51 #[.int .i64 a,.int .i64 b,.int .i64 c] w fun e w'=>e=.returned (.bool true)∧w=w':=by
 have h1:decide (b≤a)=true:=decide_eq_true h.1
 have h2:decide (a≤c)=true:=decide_eq_true h.2
 go_enter s51,ntmps51
 go_wp2
 go_ret
 exact ⟨by simp [h.2],rfl⟩
end Go.Proofs.Tryz
namespace Go.Proofs.Tryz
open Go Go.Sim Go.Load Go.RowKit
theorem qcf {w:World} {g:Grp} (h:yK w g):yF w (.slice g.ta g.traffic.length g.tc) g.traffic:=⟨g.ta,g.tc,rfl,h⟩
set_option maxHeartbeats 8000000 in
set_option maxRecDepth 100000 in
theorem Same_yes {A B:Bk} (w:World) (hA:BookAt w A) (hB:BookAt w B) (e1:B.lim=A.lim) (e2:B.growth=A.growth) (e3:B.hours=A.hours) (hs:qM A.gs B.gs):Calls qf 19 #[bv A,bv B] w fun e w'=>e=.returned (.bool true)∧Below w.heap.size w w':=by
 obtain ⟨lim,gr,hr,gs,ga,gc⟩:=A
 obtain ⟨lim2,gr2,hr2,gs2,ga2,gc2⟩:=B
 simp only at e1 e2 e3 hs
 subst e1 e2 e3
 have hl:=hs.1
 have hsm:=hA.small
 have HA:=Lib.hid hA
 have HB:=Lib.hid hB
 have HS:=Lib.hid hs
 have h20:gs.length≤20:=hsm.1
 simp only [bv]
 rw [hl]
 clear hA hB hs hsm
 go_enter s19,ntmps19
 go_upto_region 3 with fail
 obtain ⟨W,hW⟩:∃W,W=(w.alloc (.cells #[.int .i64 lim2.1,.int .i64 lim2.2,.int .i64 gr2,.int .i64 hr2,.slice ga gs.length gc] 26)).alloc (.cells #[.int .i64 lim2.1,.int .i64 lim2.2,.int .i64 gr2,.int .i64 hr2,.slice ga2 gs.length gc2] 26):=⟨_,rfl⟩
 have k4:W.cell? ⟨w.heap.size,4,none⟩=some (.slice ga gs.length gc):=by rw [hW];go_cell
 have m4:W.cell? ⟨w.heap.size+1,4,none⟩=some (.slice ga2 gs.length gc2):=by rw [hW];go_cell
 have hBW:Below w.heap.size w W:=by rw [hW];go_grown
 have hWs:w.heap.size+1 < W.heap.size:=by rw [hW];simp
 rw [← hW]
 clear hW
 go_wp2
 go_loopw [5] (fun i wr=>∃k:Nat,i=.int .i64 k∧k≤gs.length∧Below W.heap.size W wr) (fun i _=>gs.length - (intOf i).toNat)
 case atStart=>exact ⟨0,rfl,Nat.zero_le _,.refl _ _⟩
 case round =>
  obtain ⟨k,rfl,hk,hBr⟩:=hrel
  have k4:=qb _ hBr k4
  have m4:=qb _ hBr m4
  have hBt:=Below.call hBW hBr (by omega)
  by_cases hlt:k < gs.length
  ·obtain ⟨b,o,rfl,hcs⟩:=HA.out.row (show 1≤gs.length by omega)
   obtain ⟨b2,o2,e,hcs2⟩:=HB.out.row (show 1≤gs2.length by omega)
   simp only at e
   subst e
   obtain ⟨g,hg⟩:∃g,gs[k]? = some g:=⟨gs[k],List.getElem?_eq_getElem hlt⟩
   obtain ⟨g2,hg2⟩:∃g,gs2[k]? = some g:=⟨gs2[k]'(by omega),List.getElem?_eq_getElem _⟩
   obtain ⟨s1,s2,s3⟩:=HS.out.2 k g g2 hg hg2
   obtain ⟨c0,c1,c2⟩:=hcs k g hg
   obtain ⟨d0,d1,d2⟩:=hcs2 k g2 hg2
   have c0:=qb _ hBt c0
   have c1:=qb _ hBt c1
   have c2:=qb _ hBt c2
   have d0:=qb _ hBt d0
   have d1:=qb _ hBt d1
   have d2:=qb _ hBt d2
   rw [s1] at d0
   rw [s2] at d1
   have hF1:=Lib.hid (qcf ((HA.out.traf g (List.mem_of_getElem? hg)).keep hBt))
   have hF2:=Lib.hid (qcf ((HB.out.traf g2 (List.mem_of_getElem? hg2)).keep hBt))
   have hg20:g.traffic.length≤20:=(HA.out.small.2 g (List.mem_of_getElem? hg)).1
   have hS3:=Lib.hid s3
   have k1:(k:Int) < (gs.length:Int):=by omega
   have k0:(0:Int)≤(k:Int):=Int.natCast_nonneg k
   clear hcs hcs2 hg hg2 s1 s2 s3
   go_upto_region 6 with fail
   go_cut [6,7] from 43 to 52 (fun p6 p7 wx=>∃x y:Nat,p6=.pointer (some ⟨x,0,none⟩)∧p7=.pointer (some ⟨y,0,none⟩)∧wx.cell? ⟨x,0,none⟩=some (.string g.name)∧wx.cell? ⟨x,1,none⟩=some (.int .i64 g.trunks)∧wx.cell? ⟨x,2,none⟩=some (.slice g.ta g.traffic.length g.tc)∧wx.cell? ⟨y,0,none⟩=some (.string g.name)∧wx.cell? ⟨y,1,none⟩=some (.int .i64 g.trunks)∧wx.cell? ⟨y,2,none⟩=some (.slice g2.ta g2.traffic.length g2.tc)∧Below wr.heap.size wr wx)
   case first =>
    have l1:w.heap.size < wr.heap.size:=lt_of_cell k4
    have l2:w.heap.size+1 < wr.heap.size:=lt_of_cell m4
    have l3:b < wr.heap.size:=lt_of_cell c0
    have l4:b2 < wr.heap.size:=lt_of_cell d0
    have l5:w.heap.size < wr.heap.size+1:=by omega
    have l6:w.heap.size+1 < wr.heap.size+1:=by omega
    have l7:b < wr.heap.size+1:=by omega
    have l8:b2 < wr.heap.size+1:=by omega
    clear HA HB HS hBt hBr hBW
    go_region
    all_goals
     go_wp2_with fail
     go_meet
     exact ⟨_,_,rfl,rfl,by go_cell,by go_cell,by go_cell,by go_cell,by go_cell,by go_cell,by go_grown⟩
   case rest =>
    obtain ⟨x,y,rfl,rfl,x0,x1,x2,y0,y1,y2,hB⟩:=hcut
    obtain ⟨WC,rfl⟩:∃W,W=wc:=⟨_,rfl⟩
    have hF1:yF WC (.slice g.ta g.traffic.length g.tc) g.traffic:=by
     obtain ⟨a,c,e,h⟩:=hF1.out
     exact ⟨a,c,e,fun h1=>let ⟨b,o,e1,hp⟩:=h h1;⟨b,o,e1,hp.keep hB⟩⟩
    have hF2:yF WC (.slice g2.ta g2.traffic.length g2.tc) g2.traffic:=by
     obtain ⟨a,c,e,h⟩:=hF2.out
     exact ⟨a,c,e,fun h1=>let ⟨b,o,e1,hp⟩:=h h1;⟨b,o,e1,hp.keep hB⟩⟩
    have hst:=xq _ _ _ _ WC hF1 hF2 (by omega) (by rw [hS3.out];omega)
    rw [decide_eq_true hS3.out.symm] at hst
    have hBc:=bcl hBr hB
    clear hF1 hF2 c0 c1 c2 d0 d1 d2 k4 m4 hB
    go_wp2_with (go_at_call 41;(with_reducible refine hst.mono ?_);rintro e w1 ⟨rfl,hB⟩)
    go_roundw
    case rel=>exact ⟨k+1,rfl,by omega,bcl hBc hB⟩
    case measure=>simp [intOf];omega
  ·obtain rfl:k=gs.length:=by omega
   go_wp2
   go_ret
   exact ⟨rfl,hBt⟩
end Go.Proofs.Tryz
namespace Go.Proofs.Tryz
open Go Go.Load Go.RowKit
theorem YS {P:Program} {fn:Func} {R:Ending→World→Prop} {ts:Array Value} {p q r s:Tmp} {w:World} {a b c d:Value} (h:fn.results=#[.tmp p,.tmp q,.tmp r,.tmp s]) (hp:ts.getD p undef=a) (hq:ts.getD q undef=b) (hr:ts.getD r undef=c) (hs:ts.getD s undef=d)
 (hR:R (.returned (.tuple #[a,b,c,d])) w):bodyPost P fn R .ret ⟨ts,[]⟩ w:=by
 refine bodyPost_ret (v:=.tuple #[a,b,c,d]) ?_ rfl hR
 unfold results
 rw [h]
 simp only [List.mapM_toArray,List.mapM_cons,List.mapM_nil,hp,hq,hr,hs,bind_assoc,pure_bind,map_eq_pure_bind,Sem.run_pure]
 rfl
def xR (B:Bk) (g:Grp):Bool:=(g.traffic.any fun x => !decide (zT x)) || !Qs B g g.trunks.toNat
def za (B:Bk):Nat→List Grp→Option Nat
 | _,[]=>none
 | i,g :: l=>if xR B g then some i else za B (i+1) l
def zy (B:Bk):Nat→Nat→Option (Nat×Nat)
 | 0,_=>none
 | f+1,y=>match za (qo B y) 0 (qo B y).gs with
   | some i=>some (y,i)
   | none=>zy B f (y+1)
def yearR:Option (Nat×Nat)→Value
 | some p=>.tuple #[.int .i64 p.1,.int .i64 p.2,.bool true,.int .i64 0]
 | none=>.tuple #[.int .i64 0,.int .i64 0,.bool false,.int .i64 0]
def qbJ (B:Bk):Value:=if checkN B=0 then yearR (zy B 7 0) else .tuple #[.int .i64 0,.int .i64 0,.bool false,.int .i64 (checkN B)]
theorem ZF {B:Bk} {l:List Grp} {k:Nat} {g:Grp} (h:l[k]? = some g):za B k (l.drop k)=if xR B g then some k else za B (k+1) (l.drop (k+1)):=by
 obtain ⟨hk,rfl⟩:=List.getElem?_eq_some_iff.1 h
 rw [List.drop_eq_getElem_cons hk]
 rfl
theorem Jz (B B':Bk) (g:Grp) (h:B'.lim=B.lim):xR B' (blank g)=xR B g:=by
 unfold xR Qs
 rw [h];rfl
theorem ji (B B':Bk) (h:B'.lim=B.lim):∀(l:List Grp) (i:Nat),za B' i (l.map blank)=za B i l
 | [],_=>rfl
 | g :: l,i=>by simp only [List.map_cons,za,Jz B B' g h,ji B B' h l]
theorem ZG {B B':Bk} {l l':List Grp} (h:B'.lim=B.lim) (hs:qM l l'):za B' 0 l'=za B 0 l:=by
 rw [← ji B' { B' with gs:=[] } rfl l',← ji B { B' with gs:=[] } h l,ZA hs]
set_option maxHeartbeats 2000000 in
set_option maxRecDepth 100000 in
theorem Year_bad (B:Bk) (w:World) (h:BookAt w B) (hG:Globs w) (hc:checkN B≠0):Calls qf 20 #[bv B] w fun e w'=>e=.returned (.tuple #[.int .i64 0,.int .i64 0,.bool false,.int .i64 (checkN B)])∧Below w.heap.size w w':=by
 have hop:=fun W (hB:Below w.heap.size w W)=>zS B true W (h.keep hB) (hG.keep hB)
 simp only [jG,if_neg hc] at hop
 generalize checkN B=r at *
 have hrb:(r != 0)=true:=by simp [hc]
 obtain ⟨lim,gr,hr,gs,ga,gc⟩:=B
 simp only [bv,bz] at *
 clear h hG hc
 go_enter s20,ntmps20
 go_wp2_with (go_at_call 42;(with_reducible refine (hop _ (by go_grown)).mono ?_);rintro e w1 ⟨rfl,hB1⟩;(first | (replace hB:=bcl (by with_reducible assumption) hB1) | (replace hB:=bcl (by go_grown) hB1) | (have hB:=hB1));(try clear hc hg hz);obtain ⟨hc,hg⟩:=qy hB;have hz:=hB.size;clear hB1;(try simp at hz);(try have hlt0:w.heap.size < w1.heap.size:=by omega))
 have hBw:=bcl (w:=w) (by go_grown) hB
 exact YS results20 rfl rfl rfl rfl ⟨rfl,hBw.alloc hBw.size _⟩
def YearAt (B:Bk) (y:Nat) (W:World) (l:List Grp) (ga:Option Addr) (gc:Nat):Prop:=qM (qo B y).gs l∧BookAt W { B with gs:=l,ga:=ga,gc:=gc }
set_option maxHeartbeats 4000000 in
set_option maxRecDepth 100000 in
theorem Year_ok (B:Bk) (w:World) (h:BookAt w B) (hG:Globs w) (hc:checkN B=0):Calls qf 20 #[bv B] w fun e w'=>e=.returned (yearR (zy B 7 0))∧Below w.heap.size w w':=by
 have hop:=fun W (hB:Below w.heap.size w W)=>zS B true W (h.keep hB) (hG.keep hB)
 simp only [jG,if_pos hc] at hop
 have hV:=qN hc
 have HS:=Lib.hid h.small
 have HV:=Lib.hid hV
 have H:=Lib.hid h
 have hfl:∀g∈B.gs,1≤g.traffic.length:=fun g hg=>by have:=(hV.grp g hg).len;have:=hV.num.2.2.1;omega
 have HF:=Lib.hid hfl
 obtain ⟨R,hR⟩:∃R,zy B 7 0=R:=⟨_,rfl⟩
 rw [hR]
 have HR:=Lib.hid hR
 have hsm:=h.small
 clear hfl hV hR
 obtain ⟨lim,gr,hr,gs,ga,gc⟩:=B
 simp only [bv,bz] at *
 clear h hG hc
 go_enter s20,ntmps20
 go_upto_region 4 with ((go_at_call 42;(with_reducible refine (hop _ (by go_grown)).mono ?_);rintro e w1 ⟨rfl,hB1⟩;(first | (replace hB:=bcl (by with_reducible assumption) hB1) | (replace hB:=bcl (by go_grown) hB1) | (have hB:=hB1));(try clear hc hg hz);obtain ⟨hc,hg⟩:=qy hB;have hz:=hB.size;clear hB1;(try simp at hz);(try have hlt0:w.heap.size < w1.heap.size:=by omega)))
 have hF6:=Five.new w1 (.int .i64 lim.1) (.int .i64 lim.2) (.int .i64 gr) (.int .i64 hr) (.slice ga gs.length gc) 67
 have hBw:=(bcl (w:=w) (by go_grown) hB).alloc (w:=w1) (by omega) (.cells #[.int .i64 lim.1,.int .i64 lim.2,.int .i64 gr,.int .i64 hr,.slice ga gs.length gc] 67)
 obtain ⟨W,hW⟩:∃W,w1.alloc (.cells #[.int .i64 lim.1,.int .i64 lim.2,.int .i64 gr,.int .i64 hr,.slice ga gs.length gc] 67)=W:=⟨_,rfl⟩
 obtain ⟨q,hq⟩:∃q,w1.heap.size=q:=⟨_,rfl⟩
 have hwq:w.heap.size < q:=by omega
 rw [hq] at hF6
 rw [hW] at hF6 hBw ⊢
 rw [hq]
 clear hW hc hg hB hz hq
 go_wp2
 have hY:YearAt ⟨lim,gr,hr,gs,ga,gc⟩ 0 W gs ga gc:=⟨.refl _,H.out.keep hBw⟩
 go_loopw [18] (fun i wr=>∃y:Nat,i=.int .i64 y∧y≤7∧Below w.heap.size w wr∧Hid (zy ⟨lim,gr,hr,gs,ga,gc⟩ (7 - y) y=R)∧∃l a c,Hid (YearAt ⟨lim,gr,hr,gs,ga,gc⟩ y wr l a c)∧Hid (Five wr q (.int .i64 lim.1) (.int .i64 lim.2) (.int .i64 gr) (.int .i64 hr) (.slice a l.length c))) (fun i _=>7 - (intOf i).toNat)
 case atStart=>exact ⟨0,rfl,by omega,hBw,HR,gs,ga,gc,Lib.hid hY,Lib.hid hF6⟩
 case round =>
  clear hF6 hBw hY hop
  obtain ⟨y,rfl,hy,hBr,HY,l,a,c,hA,hF⟩:=hrel
  obtain ⟨⟨e0,e1,e2,e3,e4⟩,⟨k0,k1,k2,k3,k4⟩⟩:=id hF.out
  have hll:l.length=gs.length:=by rw [hA.out.1.1,Qd]
  obtain ⟨b,o,hla,hcs⟩:=hA.out.2.row (by rw [hll];exact HV.out.len1)
  simp only at hla
  subst hla
  have hl20:l.length≤20:=by rw [hll];exact HS.out.1
  have HLL:=Lib.hid hll
  clear hll
  by_cases hlt:y < 7
  ·have hy1:(y:Int) < 7:=by omega
   have hy0:(0:Int)≤(y:Int):=Int.natCast_nonneg y
   have HYs:Hid (zy ⟨lim,gr,hr,gs,ga,gc⟩ (7 - y) y=match za ⟨lim,gr,hr,l,some ⟨b,o,none⟩,c⟩ 0 l with | some i=>some (y,i) | none=>zy ⟨lim,gr,hr,gs,ga,gc⟩ (7 - (y+1)) (y+1)):=Lib.hid (by
    rw [show 7 - y=(7 - (y+1))+1 by omega]
    show (match za (qo ⟨lim,gr,hr,gs,ga,gc⟩ y) 0 (qo ⟨lim,gr,hr,gs,ga,gc⟩ y).gs with | some i=>some (y,i) | none=>zy ⟨lim,gr,hr,gs,ga,gc⟩ (7 - (y+1)) (y+1))=_
    rw [← ZG (B':=⟨lim,gr,hr,l,some ⟨b,o,none⟩,c⟩) (by rw [(yc _ y).1]) hA.out.1])
   have HC:=Lib.hid hcs
   have hlb:b < wr.heap.size:=lt_of_cell (hcs 0 _ (List.getElem?_eq_getElem (show 0 < l.length by rw [HLL.out];exact HV.out.len1))).1
   clear hcs
   go_wp2
   obtain ⟨V,hV⟩:∃V,V=wr:=⟨_,rfl⟩
   subst hV
   go_loopw [25] (fun i w3=>∃j:Nat,i=.int .i64 j∧j≤l.length∧Below V.heap.size V w3∧Hid (za ⟨lim,gr,hr,l,some ⟨b,o,none⟩,c⟩ 0 l=za ⟨lim,gr,hr,l,some ⟨b,o,none⟩,c⟩ j (l.drop j))) (fun i _=>l.length - (intOf i).toNat)
   case atStart=>exact ⟨0,rfl,by omega,.refl _ _,Lib.hid rfl⟩
   case round =>
    obtain ⟨j,rfl,hj,hB3,HJ⟩:=hrel
    have hBr3:=bcl hBr hB3
    have e0:=qb _ hB3 e0
    have e1:=qb _ hB3 e1
    have e2:=qb _ hB3 e2
    have e3:=qb _ hB3 e3
    have e4:=qb _ hB3 e4
    have k0:=qg _ hB3 (hF.out.c.1) k0
    have k1:=qg _ hB3 (hF.out.c.2.1) k1
    have k2:=qg _ hB3 (hF.out.c.2.2.1) k2
    have k3:=qg _ hB3 (hF.out.c.2.2.2.1) k3
    have k4:=qg _ hB3 (hF.out.c.2.2.2.2) k4
    have hq3:q < wr.heap.size:=lt_of_cell e0
    have hVs:=hB3.size
    by_cases hjl:j < l.length
    ·obtain ⟨x,hx⟩:∃x,l[j]? = some x:=⟨l[j],by simp [hjl]⟩
     obtain ⟨c0,c1,c2⟩:=HC.out j x hx
     have c0:=qb _ hB3 c0
     have c1:=qb _ hB3 c1
     have c2:=qb _ hB3 c2
     have hm:x∈l:=List.mem_of_getElem? hx
     have hsx:=(hA.out.2.small.2 x hm).1
     have htf:=fun (W:World) (hB:Below V.heap.size V W)=>yU 70 #[] (fun args w=>c70 args w) (fun x => !decide (zT x)) x.traffic x.ta x.tc (by omega) W ((hA.out.2.traf x hm).keep hB) (fun x _ W' _=>qdW x W')
     have hT7:0≤x.trunks∧x.trunks≤7:=by
      have hi:=(List.getElem?_eq_some_iff.1 hx).1
      obtain ⟨z,hz⟩:∃z,(qo ⟨lim,gr,hr,gs,ga,gc⟩ y).gs[j]? = some z:=⟨(qo ⟨lim,gr,hr,gs,ga,gc⟩ y).gs[j]'(by rw [← hA.out.1.1];exact hi),by simp⟩
      obtain ⟨u,hu,_,hu2,_⟩:=jb _ y j z hz
      have hgu:=HV.out.grp u (List.mem_of_getElem? hu)
      rw [(hA.out.1.2 j z x hz hx).2.1,hu2]
      exact ⟨hgu.tr0,hgu.tr7⟩
     obtain ⟨T,hT⟩:=Int.eq_ofNat_of_zero_le hT7.1
     have hT8:T≤7:=by omega
     have hfi:=fun (W:World) (hB:Below V.heap.size V W) (htr:∀z∈x.traffic,zT z)=>Ja ⟨lim,gr,hr,l,some ⟨b,o,none⟩,c⟩ j T x hx hT8 W ⟨hA.out.2.keep hB,HV.out.num.1⟩ htr
     have hbd:Hid (za ⟨lim,gr,hr,l,some ⟨b,o,none⟩,c⟩ j (l.drop j)=if xR ⟨lim,gr,hr,l,some ⟨b,o,none⟩,c⟩ x then some j else za ⟨lim,gr,hr,l,some ⟨b,o,none⟩,c⟩ (j+1) (l.drop (j+1))):=Lib.hid (ZF hx)
     rw [hT] at c1
     have hYB:Hid (xR ⟨lim,gr,hr,l,some ⟨b,o,none⟩,c⟩ x=((x.traffic.any fun x => !decide (zT x)) || !Qs ⟨lim,gr,hr,l,some ⟨b,o,none⟩,c⟩ x T)):=Lib.hid (by unfold xR;rw [hT];rfl)
     have hj20:(j:Int) < (l.length:Int):=by omega
     have hj0:(0:Int)≤(j:Int):=Int.natCast_nonneg j
     clear hx hm hT7 hT hT8 hsx
     simp only [bv] at hfi
     by_cases ha:(x.traffic.any fun x => !decide (zT x))=true
     ·rw [ha] at htf
      have HA:=Lib.hid ha
      have htr:True:=trivial
      clear ha hfi
      go_wp2_with (first | (go_at_call 69;(with_reducible refine (htf _ (by go_grown)).mono ?_);rintro e w1 ⟨rfl,hB1⟩;have hBx:=Below.call (B:=V.heap.size) (w:=V) (by go_grown) hB1 (Nat.le_refl _);obtain ⟨hc,hg⟩:=qy hB1;have hs1:=hB1.size;(simp at hs1);have hq4:q < wr.heap.size+1:=(by omega)) | (go_at_call 56;(with_reducible refine (hfi _ (by first | exact hBx | go_grown) htr).mono ?_);rintro e w2 ⟨rfl,hB2⟩;have hBy:=Below.call (B:=V.heap.size) (w:=V) (by first | exact hBx | go_grown) hB2 (Nat.le_refl _)))
      have hRR:R=some (y,j):=by rw [← HY.out,HYs.out,HJ.out,hbd.out,hYB.out,HA.out];rfl
      exact YS results20 rfl rfl rfl rfl ⟨by rw [hRR];rfl,bcl hBr hBx⟩
     ·have ha:(x.traffic.any fun x => !decide (zT x))=false:=by simpa using ha
      have htr:∀z∈x.traffic,zT z:=fun z hz=>by
       have:=List.any_eq_false.1 ha z hz
       simpa using this
      rw [ha] at htf
      have HA:=Lib.hid ha
      clear ha
      cases hb:Qs ⟨lim,gr,hr,l,some ⟨b,o,none⟩,c⟩ x T with
      | false =>
        rw [hb] at hfi
        have HB:=Lib.hid hb
        clear hb
        go_wp2_with (first | (go_at_call 69;(with_reducible refine (htf _ (by go_grown)).mono ?_);rintro e w1 ⟨rfl,hB1⟩;have hBx:=Below.call (B:=V.heap.size) (w:=V) (by go_grown) hB1 (Nat.le_refl _);obtain ⟨hc,hg⟩:=qy hB1;have hs1:=hB1.size;(simp at hs1);have hq4:q < wr.heap.size+1:=(by omega)) | (go_at_call 56;(with_reducible refine (hfi _ (by first | exact hBx | go_grown) htr).mono ?_);rintro e w2 ⟨rfl,hB2⟩;have hBy:=Below.call (B:=V.heap.size) (w:=V) (by first | exact hBx | go_grown) hB2 (Nat.le_refl _)))
        have hRR:R=some (y,j):=by rw [← HY.out,HYs.out,HJ.out,hbd.out,hYB.out,HA.out,HB.out];rfl
        exact YS results20 rfl rfl rfl rfl ⟨by rw [hRR];rfl,bcl hBr hBy⟩
      | true =>
        rw [hb] at hfi
        have HB:=Lib.hid hb
        clear hb
        go_wp2_with (first | (go_at_call 69;(with_reducible refine (htf _ (by go_grown)).mono ?_);rintro e w1 ⟨rfl,hB1⟩;have hBx:=Below.call (B:=V.heap.size) (w:=V) (by go_grown) hB1 (Nat.le_refl _);obtain ⟨hc,hg⟩:=qy hB1;have hs1:=hB1.size;(simp at hs1);have hq4:q < wr.heap.size+1:=(by omega)) | (go_at_call 56;(with_reducible refine (hfi _ (by first | exact hBx | go_grown) htr).mono ?_);rintro e w2 ⟨rfl,hB2⟩;have hBy:=Below.call (B:=V.heap.size) (w:=V) (by first | exact hBx | go_grown) hB2 (Nat.le_refl _)))
        go_roundw
        case rel=>exact ⟨j+1,rfl,by omega,hBy,Lib.hid (HJ.out.trans (by rw [hbd.out,hYB.out,HA.out,HB.out];rfl))⟩
        case measure=>simp [intOf];omega
    ·obtain rfl:j=l.length:=by omega
     have hgr:=JZ ⟨lim,gr,hr,l,some ⟨b,o,none⟩,c⟩ wr (hA.out.2.keep hB3) (by rw [HLL.out];exact HV.out.len1) (fun x hx=>by
      obtain ⟨i,hi,rfl⟩:=List.getElem_of_mem hx
      obtain ⟨z,hz⟩:∃z,(qo ⟨lim,gr,hr,gs,ga,gc⟩ y).gs[i]? = some z:=⟨(qo ⟨lim,gr,hr,gs,ga,gc⟩ y).gs[i]'(by rw [← hA.out.1.1];exact hi),by simp⟩
      obtain ⟨u,hu,_,_,hu3⟩:=jb _ y i z hz
      have hs:=(hA.out.1.2 i z l[i] hz (by simp)).2.2
      rw [hs,hu3]
      exact HF.out u (List.mem_of_getElem? hu)) HV.out.num.2.1.1 (by have:=HV.out.num.2.1.2;simp only at this ⊢;omega)
     simp only [bv] at hgr
     have HNo:Hid (zy ⟨lim,gr,hr,gs,ga,gc⟩ (7 - (y+1)) (y+1)=R):=Lib.hid (by
      rw [← HY.out,HYs.out,HJ.out,List.drop_length];rfl)
     go_wp2
     go_at_call 67
     refine hgr.mono ?_
     rintro e w4 ⟨⟨g1,gc1,l1,tb1,rfl,hS1,hO1,hc1⟩,hB4⟩
     have hF4:=(hF.out.keep hB3).keep hB4
     have hBx:=bcl hBr3 hB4
     clear e0 e1 e2 e3 e4 k0 k1 k2 k3 k4 hgr hB4
     obtain ⟨⟨e0,e1,e2,e3,e4⟩,⟨k0,k1,k2,k3,k4⟩⟩:=id hF4
     simp only [bv,YC]
     go_wp2
     go_roundw
     case rel =>
      refine ⟨y+1,rfl,by omega,Below.set5 hBx (by omega),HNo,l1,some ⟨g1,0,none⟩,gc1,Lib.hid ⟨?_,?_⟩,Lib.hid (hF4.put _ _ _ _ _)⟩
      ·have h2:=(YW (r:=gr) hA.out.1).trans hS1
       have e:=(yc ⟨lim,gr,hr,gs,ga,gc⟩ y).2.1
       simp only [qo,YC,e]
       exact h2
      ·refine Yr (B:=YC ⟨lim,gr,hr,l,some ⟨b,o,none⟩,c⟩) hS1 (hO1.five' rfl hq3) hc1 ⟨by simpa [YC] using hl20,fun z hz=>?_⟩
       obtain ⟨u,hu,rfl⟩:=List.mem_map.1 hz
       have:=hA.out.2.small.2 u hu
       simpa [QU] using this
     case measure=>simp [intOf];omega
  ·obtain rfl:y=7:=by omega
   have hRR:R=none:=by rw [← HY.out];rfl
   subst hRR
   go_wp2
   exact YS results20 rfl rfl rfl rfl ⟨rfl,hBr⟩
theorem qbP (B:Bk) (w:World) (h:BookAt w B) (hG:Globs w):Calls qf 20 #[bv B] w fun e w'=>e=.returned (qbJ B)∧Below w.heap.size w w':=by
 unfold qbJ
 by_cases hc:checkN B=0
 ·rw [if_pos hc];exact Year_ok B w h hG hc
 ·rw [if_neg hc];exact Year_bad B w h hG hc
def QI (t b n:Nat):Int×Int:=qW (low (t:Int) (b:Int)) n
def okF (x:Int×Int):Prop:=0≤x.1∧x.1≤x.2∧0 < x.2∧x.2≤8589934592
instance (x:Int×Int):Decidable (okF x):=by unfold okF;infer_instance
set_option maxHeartbeats 6000000 in
theorem Less_any (x y:Int×Int) (w:World) (h1:0≤x.1) (h2:0 < x.2) (h3:0≤y.1) (h4:0 < y.2) (h5:x.1 < 4611686018427387904) (h6:x.2 < 4611686018427387904) (h7:y.1 < 4611686018427387904) (h8:y.2 < 4611686018427387904) :
 Calls qf 49 #[fv x,fv y] w fun e w'=>e=.returned (.bool (above y x))∧Below w.heap.size w w':=by
 obtain ⟨a0,b0⟩:=x
 obtain ⟨c0,d0⟩:=y
 simp only [fv] at *
 go_enter s49,ntmps49
 go_wp2
 go_loopw [] (fun wr=>∃a b c d:Int,0≤a∧0 < b∧0≤c∧0 < d∧a < 4611686018427387904∧b < 4611686018427387904∧c < 4611686018427387904∧d < 4611686018427387904∧Hid (above (c,d) (a,b)=above (c0,d0) (a0,b0)) ∧
  wr.cell? ⟨w.heap.size,0,none⟩=some (.int .i64 a)∧wr.cell? ⟨w.heap.size,1,none⟩=some (.int .i64 b)∧wr.cell? ⟨w.heap.size+1,0,none⟩=some (.int .i64 c)∧wr.cell? ⟨w.heap.size+1,1,none⟩=some (.int .i64 d) ∧
  wr.frozen? ⟨w.heap.size,0,none⟩=false∧wr.frozen? ⟨w.heap.size,1,none⟩=false∧wr.frozen? ⟨w.heap.size+1,0,none⟩=false∧wr.frozen? ⟨w.heap.size+1,1,none⟩=false∧w.heap.size+2≤wr.heap.size∧Below w.heap.size w wr)
  (fun wr=>cellNat wr ⟨w.heap.size,1,none⟩+cellNat wr ⟨w.heap.size+1,1,none⟩)
 case atStart=>exact ⟨a0,b0,c0,d0,h1,h2,h3,h4,h5,h6,h7,h8,Lib.hid rfl,by go_cell,by go_cell,by go_cell,by go_cell,by go_cell,by go_cell,by go_cell,by go_cell,by simp,by go_grown⟩
 case round =>
  clear h1 h2 h3 h4 h5 h6 h7 h8
  obtain ⟨a,b,c,d,h1,h2,h3,h4,h5,h6,h7,h8,HA,k0,k1,k2,k3,g0,g1,g2,g3,hsz,hB⟩:=hrel
  have e1:=Int.ediv_nonneg h1 (Int.le_of_lt h2)
  have e2:=Int.ediv_nonneg h3 (Int.le_of_lt h4)
  have e3:=Int.ediv_le_self b h1
  have e4:=Int.ediv_le_self d h3
  have e5:=Int.emod_nonneg a (Int.ne_of_gt h2)
  have e6:=Int.emod_lt_of_pos a h2
  have e7:=Int.emod_nonneg c (Int.ne_of_gt h4)
  have e8:=Int.emod_lt_of_pos c h4
  have n1:(b == 0)=false:=by rw [beq_eq_false_iff_ne];omega
  have n2:(d == 0)=false:=by rw [beq_eq_false_iff_ne];omega
  go_wp2
  go_region
  all_goals go_wp2
  all_goals go_region
  all_goals go_wp2
  ·have hne:(a / b != c / d)=true:=by assumption
   have hne':c / d≠a / b:=fun e=>by simp [e] at hne
   go_returns
   refine ⟨?_,(hB.drew).drew⟩
   rw [← HA.out]
   unfold above
   simp only [qbQ h4 h2 hne']
   rfl
  ·have heq:(a / b != c / d)=false:=by assumption
   have heq':c / d=a / b:=(bne_eq_false_iff_eq.1 heq).symm
   have z1:a % b=0:=by assumption
   go_returns
   refine ⟨?_,(hB.drew).drew⟩
   rw [← HA.out]
   unfold above
   simp only [Yd h4 h2 heq',z1,Int.zero_mul]
   have:(0 < c % d * b)↔(0 < c % d):=⟨fun h=>(Int.lt_or_eq_of_le e7).elim id fun h0=>by rw [← h0,Int.zero_mul] at h;omega,fun h=>Int.mul_pos h h2⟩
   simp only [this]
   rfl
  ·have heq:(a / b != c / d)=false:=by assumption
   have heq':c / d=a / b:=(bne_eq_false_iff_eq.1 heq).symm
   have z1:¬ a % b=0:=by assumption
   have zz:(a % b == 0)=true∨(c % d == 0)=true:=by assumption
   have z2:c % d=0:=by
    rcases zz with h | h
    ·exact absurd (beq_iff_eq.1 h) z1
    ·exact beq_iff_eq.1 h
   go_returns
   refine ⟨?_,(hB.drew).drew⟩
   rw [← HA.out]
   unfold above
   have hn:¬ a % b * d < 0:=Int.not_lt.2 (Int.mul_nonneg e5 (Int.le_of_lt h4))
   simp only [Yd h4 h2 heq',z2,Int.zero_mul,hn,decide_false]
   rfl
  ·have heq:(a / b != c / d)=false:=by assumption
   have heq':c / d=a / b:=(bne_eq_false_iff_eq.1 heq).symm
   have z1:¬ a % b=0:=by assumption
   have zz:(a % b == 0)=false∧(c % d == 0)=false:=by assumption
   have z2:c % d≠0:=beq_eq_false_iff_ne.1 zz.2
   have hA:above (c,d) (a,b)=decide ((a % b) * d < (c % d) * b):=by
    unfold above
    exact decide_eq_decide.2 (Yd h4 h2 heq')
   go_roundw
   case rel =>
    refine ⟨d,c % d,b,a % b,by omega,by omega,by omega,by omega,by omega,by omega,by omega,by omega,Lib.hid ?_,by go_cell,by go_cell,by go_cell,by go_cell,by go_cell,by go_cell,by go_cell,by go_cell,by simpa using hsz,?_⟩
    ·rw [← HA.out,hA]
     unfold above
     simp only [Int.mul_comm]
    ·exact (((((hB.setCell (p:=⟨w.heap.size,0,none⟩) (Nat.le_refl _) _).setCell (p:=⟨w.heap.size,1,none⟩) (Nat.le_refl _) _).setCell (p:=⟨w.heap.size+1,0,none⟩) (Nat.le_succ _) _).setCell (p:=⟨w.heap.size+1,1,none⟩) (Nat.le_succ _) _).drew).drew
   case measure =>
    rw [zZ k1,zZ k3,zZ (n:=c % d) (by go_cell),zZ (n:=a % b) (by go_cell)]
    omega
def okS (x:Int×Int) (m:Int):Prop:=0≤x.1∧x.1≤16 * m∧0 < x.2∧x.2≤m
instance (x:Int×Int) (m:Int):Decidable (okS x m):=by unfold okS;infer_instance
def Xm (t b n:Nat):Int×Int:=qL (low (t:Int) (b:Int)) n
def carrB (t b n:Nat):Int×Int:=xH (low (t:Int) (b:Int)) n
def sumB (t b n:Nat):Bool :=
 fairN (Xm t b n) && fairN (carrB t b n) && fairN (QI t b n) && decide (okS (Xm t b n) 34359738368) && decide (okS (carrB t b n) 34359738368) && decide (okS (QI t b n) 8589934592) &&
 decide (((t:Int) * (Xm t b n).2 < 4611686018427387904∧(b:Int) * (Xm t b n).2 < 4611686018427387904)∧(Xm t b n).1 * b≤t * (Xm t b n).2) &&
 decide (redN ((t:Int) * (Xm t b n).2 - (Xm t b n).1 * b).toNat ((b:Int) * (Xm t b n).2).toNat=carrB t b n) && !above (carrB t b n) (n,1) &&
 decide (Xm t b n=redN (t * (QI t b n).1.toNat) (b * (QI t b n).2.toNat))
theorem sum_all:((List.range 13).all fun t=>(List.range 4).all fun b=>(List.range 8).all fun n=>sumB t (b+1) n)=true:=by decide +kernel
def zD (x l:Int×Int) (k:Nat):Option Nat:=((List.range 8).drop k).find? fun n=>borne x n l
theorem JQ (x l:Int×Int):zD x l 8=none:=rfl
theorem Xw {k:Nat} (hk:k < 8):(List.range 8).drop k=k :: (List.range 8).drop (k+1):=by
 rcases (show k=0∨k=1∨k=2∨k=3∨k=4∨k=5∨k=6∨k=7 by omega) with rfl | rfl | rfl | rfl | rfl | rfl | rfl | rfl <;> rfl
theorem Xi {x l:Int×Int} {k:Nat} (hk:k < 8) (h:borne x k l=true):zD x l k=some k:=by
 unfold zD;rw [Xw hk,List.find?_cons,h]
theorem XV {x l:Int×Int} {k:Nat} (hk:k < 8) (h:borne x k l=false):zD x l k=zD x l (k+1):=by
 unfold zD;rw [Xw hk,List.find?_cons,h]
def qaV (x l:Int×Int):Value:=if zT x∧Lim l then (match zD x l 0 with | some n=>.tuple #[.int .i64 n,.bool true,.int .i64 0] | none=>.tuple #[.int .i64 0,.bool false,.int .i64 0]) else .tuple #[.int .i64 0,.bool false,.int .i64 1]
set_option maxHeartbeats 2000000 in
theorem qcA (x l:Int×Int) (w:World):Calls qf 37 #[fv x,fv l] w fun e w'=>e=.returned (qaV x l)∧Below w.heap.size w w':=by
 unfold qaV
 by_cases hx:zT x
 ·have htr:=fun W=>zQ x W hx
  by_cases hl:Lim l
  ·rw [if_pos ⟨hx,hl⟩]
   have hli:=fun W=>QG l W hl
   have hbe:=fun T hT W=>bears_any T x l hx.1.1 hx.1.2 hx.2.1 hx.2.2 hT hl.2.1 hl.1.1 hl.2.2 hl.1.2 W
   obtain ⟨R,hR⟩:∃R,(match zD x l 0 with | some n=>Value.tuple #[.int .i64 (n:Int),.bool true,.int .i64 0] | none=>.tuple #[.int .i64 0,.bool false,.int .i64 0])=R:=⟨_,rfl⟩
   rw [hR]
   have HR:=Lib.hid hR
   clear hR
   simp only [fv] at *
   go_enter s37,ntmps37
   go_wp2_with (first | (go_at_call 71;(with_reducible refine (htr _).mono ?_);rintro e w1 ⟨rfl,hB1⟩;(first | (replace hB:=bcl (by with_reducible assumption) hB1) | (replace hB:=bcl (by go_grown) hB1) | (have hB:=hB1));(try clear hc hg hz);obtain ⟨hc,hg⟩:=qy hB;have hz:=hB.size;clear hB1;(try simp at hz);(try have hlt0:w.heap.size < w1.heap.size:=by omega)) | (go_at_call 91;(with_reducible refine (hli _).mono ?_);rintro e w1 ⟨rfl,hB1⟩;(first | (replace hB:=bcl (by with_reducible assumption) hB1) | (replace hB:=bcl (by go_grown) hB1) | (have hB:=hB1));(try clear hc hg hz);obtain ⟨hc,hg⟩:=qy hB;have hz:=hB.size;clear hB1;(try simp at hz);(try have hlt0:w.heap.size < w1.heap.size:=by omega)))
   obtain ⟨W,hW⟩:∃W,(w.alloc (Obj.cells #[Value.int .i64 x.1,Value.int .i64 x.2] 23)).alloc (Obj.cells #[Value.int .i64 l.1,Value.int .i64 l.2] 23)=W:=⟨_,rfl⟩
   have k0:W.cell? ⟨w.heap.size,0,none⟩=some (.int .i64 x.1):=by subst hW;go_cell
   have k1:W.cell? ⟨w.heap.size,1,none⟩=some (.int .i64 x.2):=by subst hW;go_cell
   have k2:W.cell? ⟨w.heap.size+1,0,none⟩=some (.int .i64 l.1):=by subst hW;go_cell
   have k3:W.cell? ⟨w.heap.size+1,1,none⟩=some (.int .i64 l.2):=by subst hW;go_cell
   have hBW:Below w.heap.size w W:=by subst hW;go_grown
   rw [hW] at hB
   clear hc hg hz hW
   go_loopw [16] (fun i wr=>∃k:Nat,i=.int .i64 k∧k≤8∧Below W.heap.size W wr∧Hid (zD x l k=zD x l 0)) (fun i _=>8 - (intOf i).toNat)
   case atStart=>exact ⟨0,rfl,by omega,hB,Lib.hid rfl⟩
   case round =>
    obtain ⟨k,rfl,hk,hBr,HE⟩:=hrel
    clear hB
    have k0:=qb _ hBr k0
    have k1:=qb _ hBr k1
    have k2:=qb _ hBr k2
    have k3:=qb _ hBr k3
    by_cases hlt:k < 8
    ·have hbe:=fun W=>hbe k (by omega) W
     by_cases hb:borne x k l=true
     ·simp only [hb] at hbe
      go_wp2_with (go_at_call 92;(with_reducible refine (hbe _).mono ?_);rintro e w1 ⟨rfl,hB1⟩;(first | (replace hB:=bcl (by with_reducible assumption) hB1) | (replace hB:=bcl (by go_grown) hB1) | (have hB:=hB1));(try clear hc hg hz);obtain ⟨hc,hg⟩:=qy hB;have hz:=hB.size;clear hB1;(try simp at hz);(try have hlt0:w.heap.size < w1.heap.size:=by omega))
      go_ret3
      refine ⟨?_,bcl hBW hB⟩
      rw [← HR.out,← HE.out,Xi hlt hb];rfl
     ·have hb:borne x k l=false:=by simpa using hb
      simp only [hb] at hbe
      go_wp2_with (go_at_call 92;(with_reducible refine (hbe _).mono ?_);rintro e w1 ⟨rfl,hB1⟩;(first | (replace hB:=bcl (by with_reducible assumption) hB1) | (replace hB:=bcl (by go_grown) hB1) | (have hB:=hB1));(try clear hc hg hz);obtain ⟨hc,hg⟩:=qy hB;have hz:=hB.size;clear hB1;(try simp at hz);(try have hlt0:w.heap.size < w1.heap.size:=by omega))
      go_roundw
      case rel=>exact ⟨k+1,rfl,by omega,hB,Lib.hid (by rw [← XV hlt hb];exact HE.out)⟩
      case measure=>simp [intOf];omega
    ·obtain rfl:k=8:=by omega
     go_wp2
     go_ret3
     refine ⟨?_,bcl hBW hBr⟩
     rw [← HR.out,← HE.out,JQ];rfl
  ·rw [if_neg (fun h=>hl h.2)]
   have hli:=fun W=>Zn l W hl
   simp only [fv] at *
   go_enter s37,ntmps37
   go_wp2_with (first | (go_at_call 71;(with_reducible refine (htr _).mono ?_);rintro e w1 ⟨rfl,hB1⟩;(first | (replace hB:=bcl (by with_reducible assumption) hB1) | (replace hB:=bcl (by go_grown) hB1) | (have hB:=hB1));(try clear hc hg hz);obtain ⟨hc,hg⟩:=qy hB;have hz:=hB.size;clear hB1;(try simp at hz);(try have hlt0:w.heap.size < w1.heap.size:=by omega)) | (go_at_call 91;(with_reducible refine (hli _).mono ?_);rintro e w1 ⟨rfl,hB1⟩;(first | (replace hB:=bcl (by with_reducible assumption) hB1) | (replace hB:=bcl (by go_grown) hB1) | (have hB:=hB1));(try clear hc hg hz);obtain ⟨hc,hg⟩:=qy hB;have hz:=hB.size;clear hB1;(try simp at hz);(try have hlt0:w.heap.size < w1.heap.size:=by omega)))
   go_ret3
   exact ⟨rfl,bcl (w:=w) (by go_grown) hB⟩
 ·rw [if_neg (fun h=>hx h.1)]
  have htr:=fun W=>yP x W hx
  simp only [fv] at *
  go_enter s37,ntmps37
  go_wp2_with (first | (go_at_call 71;(with_reducible refine (htr _).mono ?_);rintro e w1 ⟨rfl,hB1⟩;(first | (replace hB:=bcl (by with_reducible assumption) hB1) | (replace hB:=bcl (by go_grown) hB1) | (have hB:=hB1));(try clear hc hg hz);obtain ⟨hc,hg⟩:=qy hB;have hz:=hB.size;clear hB1;(try simp at hz);(try have hlt0:w.heap.size < w1.heap.size:=by omega)))
  go_ret3
  exact ⟨rfl,bcl (w:=w) (by go_grown) hB⟩
def zP (p:Int) (T:Nat) (l:Int×Int):Nat→Int
 | 0=>-1
 | k+1=>if borne ((k:Int),p) T l then k else zP p T l k
def qeb (T p:Int) (l:Int×Int):Value:=if (0≤T∧T≤7)∧(1≤p∧p≤4)∧Lim l then tv (zP p T.toNat l 13,p) 0 else tv (0,0) 1
set_option maxHeartbeats 2000000 in
theorem qdL (T:Nat) (p:Int) (l:Int×Int) (hT:T≤7) (hp:1≤p∧p≤4) (hl:Lim l) (w:World) :
 Calls qf 38 #[.int .i64 T,.int .i64 p,fv l] w fun e w'=>e=.returned (tv (zP p T l 13,p) 0)∧Below w.heap.size w w':=by
 have hli:=fun W=>QG l W hl
 have hbe:=fun (k:Nat) (hk:k≤12) W=>bears_any T ((k:Int),p) l (Int.natCast_nonneg k) (by show (k:Int)≤12;omega) hp.1 hp.2 hT hl.2.1 hl.1.1 hl.2.2 hl.1.2 W
 simp only [fv,tv] at *
 go_enter s38,ntmps38
 go_wp2_with (first | (go_at_call 91;(with_reducible refine (hli _).mono ?_);rintro e w1 ⟨rfl,hB1⟩;(first | (replace hB:=bcl (by with_reducible assumption) hB1) | (replace hB:=bcl (by go_grown) hB1) | (have hB:=hB1));(try clear hc hg hz);obtain ⟨hc,hg⟩:=qy hB;have hz:=hB.size;clear hB1;(try simp at hz);(try have hlt0:w.heap.size < w1.heap.size:=by omega)) | (go_at_call 85;(with_reducible refine (zN _ _ (by omega)).mono ?_);rintro e w1 ⟨rfl,rfl⟩) | (go_at_call 65;(with_reducible refine (qD _ _ _ _ hp).mono ?_);rintro e w1 ⟨rfl,rfl⟩))
 have L0:w1.cell? ⟨w.heap.size,0,none⟩=some (.int .i64 l.1):=by rw [hc _ _ (by simp <;> omega)];go_cell
 have L1:w1.cell? ⟨w.heap.size,1,none⟩=some (.int .i64 l.2):=by rw [hc _ _ (by simp <;> omega)];go_cell
 have R0:w1.cell? ⟨w.heap.size+1,0,none⟩=some (.int .i64 0):=by rw [hc _ _ (by simp <;> omega)];go_cell
 have R1:w1.cell? ⟨w.heap.size+1,1,none⟩=some (.int .i64 0):=by rw [hc _ _ (by simp <;> omega)];go_cell
 have F0:w1.frozen? ⟨w.heap.size+1,0,none⟩=false:=by rw [hg _ _ (by simp <;> omega)];go_cell
 have F1:w1.frozen? ⟨w.heap.size+1,1,none⟩=false:=by rw [hg _ _ (by simp <;> omega)];go_cell
 have hBw:Below w.heap.size w w1:=bcl (w:=w) (by go_grown) hB
 clear hc hg hB
 go_loopw [27] (fun i wr=>∃k:Nat,i=.int .i64 k∧k≤13∧Below w.heap.size w wr∧w1.heap.size+1≤wr.heap.size∧wr.cell? ⟨w.heap.size,0,none⟩=some (.int .i64 l.1)∧wr.cell? ⟨w.heap.size,1,none⟩=some (.int .i64 l.2) ∧
  wr.cell? ⟨w.heap.size+1,0,none⟩=some (.int .i64 0)∧wr.cell? ⟨w.heap.size+1,1,none⟩=some (.int .i64 0)∧wr.frozen? ⟨w.heap.size+1,0,none⟩=false∧wr.frozen? ⟨w.heap.size+1,1,none⟩=false ∧
  wr.cell? ⟨w1.heap.size,0,none⟩=some (.int .i64 (zP p T l k))∧wr.cell? ⟨w1.heap.size,1,none⟩=some (.int .i64 p)∧wr.frozen? ⟨w1.heap.size,0,none⟩=false∧wr.frozen? ⟨w1.heap.size,1,none⟩=false) (fun i _=>13 - (intOf i).toNat)
 case atStart =>
  have hm:zP p T l 0=-1:=rfl
  exact ⟨0,rfl,by omega,by go_grown,by simp,qi L0,qi L1,qi R0,qi R1,qm R0 F0,qm R1 F1,by rw [hm];go_cell,by go_cell,by go_cell,by go_cell⟩
 case round =>
  clear L0 L1 R0 R1 F0 F1 hBw
  obtain ⟨k,rfl,hk,hBw,hsz,L0,L1,R0,R1,F0,F1,M0,M1,G0,G1⟩:=hrel
  have s1:w.heap.size < wr.heap.size:=by omega
  have s2:w.heap.size+1 < wr.heap.size:=by omega
  have s3:w1.heap.size < wr.heap.size:=by omega
  by_cases hlt:k < 13
  ·have hbe:=fun W=>hbe k (by omega) W
   by_cases hb:borne ((k:Int),p) T l=true
   ·have hnx:zP p T l (k+1)=k:=by simp [zP,hb]
    simp only [hb] at hbe
    have HN:=Lib.hid hnx
    clear hnx
    generalize zP p T l k=m at *
    go_wp2_with (go_at_call 92;refine (hbe _).mono ?_;rintro e w2 ⟨rfl,hB2⟩;have A0:=qb ⟨wr.heap.size,0,none⟩ hB2 (v:=.int .i64 k) (by go_cell);have A1:=qb ⟨wr.heap.size,1,none⟩ hB2 (v:=.int .i64 p) (by go_cell);have N0:=qb _ hB2 (qi M0);have N1:=qb _ hB2 (qi M1);have H0:=qg _ hB2 (qi M0) (qm M0 G0);have H1:=qg _ hB2 (qi M1) (qm M1 G1);have P0:=qb _ hB2 (qi L0);have P1:=qb _ hB2 (qi L1);have Q0:=qb _ hB2 (qi R0);have Q1:=qb _ hB2 (qi R1);have I0:=qg _ hB2 (qi R0) (qm R0 F0);have I1:=qg _ hB2 (qi R1) (qm R1 F1);have hz2:=hB2.size;have hB3:=bcl (w:=w) (by go_grown) hB2;clear hB2 M0 M1 G0 G1 L0 L1 R0 R1 F0 F1;simp at hz2)
    go_roundw
    case rel=>exact ⟨k+1,rfl,by omega,(hB3.setCell (by simp;omega) _).setCell (by simp;omega) _,by simp;omega,by go_cell,by go_cell,by go_cell,by go_cell,by go_cell,by go_cell,by rw [HN.out];go_cell,by go_cell,by go_cell,by go_cell⟩
    case measure=>simp [intOf];omega
   ·have hb:borne ((k:Int),p) T l=false:=by simpa using hb
    have hnx:zP p T l (k+1)=zP p T l k:=by simp [zP,hb]
    simp only [hb] at hbe
    have HN:=Lib.hid hnx
    clear hnx
    generalize zP p T l k=m at *
    go_wp2_with (go_at_call 92;refine (hbe _).mono ?_;rintro e w2 ⟨rfl,hB2⟩;have A0:=qb ⟨wr.heap.size,0,none⟩ hB2 (v:=.int .i64 k) (by go_cell);have A1:=qb ⟨wr.heap.size,1,none⟩ hB2 (v:=.int .i64 p) (by go_cell);have N0:=qb _ hB2 (qi M0);have N1:=qb _ hB2 (qi M1);have H0:=qg _ hB2 (qi M0) (qm M0 G0);have H1:=qg _ hB2 (qi M1) (qm M1 G1);have P0:=qb _ hB2 (qi L0);have P1:=qb _ hB2 (qi L1);have Q0:=qb _ hB2 (qi R0);have Q1:=qb _ hB2 (qi R1);have I0:=qg _ hB2 (qi R0) (qm R0 F0);have I1:=qg _ hB2 (qi R1) (qm R1 F1);have hz2:=hB2.size;have hB3:=bcl (w:=w) (by go_grown) hB2;clear hB2 M0 M1 G0 G1 L0 L1 R0 R1 F0 F1;simp at hz2)
    go_roundw
    case rel=>exact ⟨k+1,rfl,by omega,hB3,by omega,P0,P1,Q0,Q1,I0,I1,by rw [HN.out];exact N0,N1,H0,H1⟩
    case measure=>simp [intOf];omega
  ·obtain rfl:k=13:=by omega
   go_wp2
   have hp:=ZL (.int .i64 (zP p T l 13)) (.int .i64 p) R0 R1
   refine bodyPost_ret (qZ results38 rfl rfl (yZ ze qP hp.1 hp.2)) rfl ⟨rfl,?_⟩
   exact (hBw.setCell (p:=⟨w.heap.size+1,0,none⟩) (Nat.le_succ _) _).setCell (p:=⟨w.heap.size+1,1,none⟩) (Nat.le_succ _) _
set_option maxHeartbeats 1000000 in
theorem qdK (T p:Int) (l:Int×Int) (w:World):Calls qf 38 #[.int .i64 T,.int .i64 p,fv l] w fun e w'=>e=.returned (qeb T p l)∧Below w.heap.size w w':=by
 unfold qeb
 by_cases hT:0≤T∧T≤7
 ·obtain ⟨n,rfl⟩:=Int.eq_ofNat_of_zero_le hT.1
  by_cases hp:1≤p∧p≤4
  ·by_cases hl:Lim l
   ·rw [if_pos ⟨hT,hp,hl⟩]
    exact qdL n p l (by omega) hp hl w
   ·rw [if_neg (fun h=>hl h.2.2)]
    have hli:=fun W=>Zn l W hl
    simp only [fv,tv] at *
    go_enter s38,ntmps38
    go_wp2_with (first | (go_at_call 91;(with_reducible refine (hli _).mono ?_);rintro e w1 ⟨rfl,hB1⟩;(first | (replace hB:=bcl (by with_reducible assumption) hB1) | (replace hB:=bcl (by go_grown) hB1) | (have hB:=hB1));(try clear hc hg hz);obtain ⟨hc,hg⟩:=qy hB;have hz:=hB.size;clear hB1;(try simp at hz);(try have hlt0:w.heap.size < w1.heap.size:=by omega)) | (go_at_call 85;(with_reducible refine (zN _ _ (by omega)).mono ?_);rintro e w1 ⟨rfl,rfl⟩) | (go_at_call 65;(with_reducible refine (qD _ _ _ _ hp).mono ?_);rintro e w1 ⟨rfl,rfl⟩))
    have c0:w1.cell? ⟨w.heap.size+1,0,none⟩=some (.int .i64 0):=by rw [hc _ _ (by simp <;> omega)];go_cell
    have c1:w1.cell? ⟨w.heap.size+1,1,none⟩=some (.int .i64 0):=by rw [hc _ _ (by simp <;> omega)];go_cell
    have hp:=ZL (.int .i64 0) (.int .i64 0) c0 c1
    refine bodyPost_ret (qZ results38 rfl rfl (yZ ze qP hp.1 hp.2)) rfl ⟨rfl,?_⟩
    exact ((bcl (w:=w) (by go_grown) hB).setCell (by simp) _).setCell (by simp) _
  ·rw [if_neg (fun h=>hp h.2.1)]
   simp only [fv,tv] at *
   go_enter s38,ntmps38
   go_wp2_with (first | (go_at_call 85;(with_reducible refine (zN _ _ (by omega)).mono ?_);rintro e w1 ⟨rfl,rfl⟩) | (go_at_call 65;(with_reducible refine (qU _ _ _ _ hp).mono ?_);rintro e w1 ⟨rfl,rfl⟩))
   go_returns
   exact ⟨rfl,by go_grown⟩
 ·rw [if_neg (fun h=>hT h.1)]
  simp only [fv,tv] at *
  go_enter s38,ntmps38
  go_wp2_with (first | (go_at_call 85;(with_reducible refine (jo _ _ hT).mono ?_);rintro e w1 ⟨rfl,rfl⟩))
  go_returns
  exact ⟨rfl,by go_grown⟩
theorem qdX {q l:Int×Int} (h2:0 < l.2):above q (low l.1 l.2)=above q l:=by
 have hg:=qbb (a:=l.1) h2
 have d1:(Int.gcd l.1 l.2:Int) * (l.1 / (Int.gcd l.1 l.2:Int))=l.1:=Int.mul_ediv_cancel' (Int.gcd_dvd_left ..)
 have d2:(Int.gcd l.1 l.2:Int) * (l.2 / (Int.gcd l.1 l.2:Int))=l.2:=Int.mul_ediv_cancel' (Int.gcd_dvd_right ..)
 unfold above low lowT lowB
 simp only
 generalize (Int.gcd l.1 l.2:Int)=g at *
 generalize l.1 / g=a at *
 generalize l.2 / g=b at *
 refine decide_eq_decide.2 ?_
 rw [← d1,← d2,Int.mul_assoc,Int.mul_left_comm q.1]
 exact ⟨fun h=>Int.mul_lt_mul_of_pos_left h hg,fun h=>Int.lt_of_mul_lt_mul_left h (Int.le_of_lt hg)⟩
theorem borne_eq {t b n:Nat} {l:Int×Int} (h2:0 < l.2):borne ((t:Int),(b:Int)) n l = !above (QI t b n) l:=by
 unfold borne QI
 rw [qdX h2]
def badX (l:Int×Int) (T:Nat) (x:Int×Int):Bool:=!decide (zT x) || !borne x T l
theorem qdZ {α:Type} (p q:α→Bool):∀l:List α,(l.any p || l.any q)=l.any fun x=>p x || q x
 | []=>rfl
 | x :: l=>by
   simp only [List.any_cons,← qdZ p q l]
   generalize l.any p=a
   generalize l.any q=b
   cases p x <;> cases q x <;> cases a <;> cases b <;> rfl
theorem qdG (B:Bk) (g:Grp):xR B g=g.traffic.any (badX B.lim g.trunks.toNat):=by
 unfold xR Qs
 rw [Bool.not_not,qdZ]
 rfl
def jR (r:Int):Nat→Int×Int→Int×Int
 | 0,x=>x
 | n+1,x=>grw r (jR r n x)
def yrG (r:Int) (n:Nat) (g:Grp):Grp:={ g with traffic:=g.traffic.map (jR r n) }
theorem YE (B:Bk):∀n,(qo B n).gs=B.gs.map (yrG B.growth n)
 | 0=>by
   have e:yrG B.growth 0=id:=by
    funext g
    have e0:jR B.growth 0=id:=rfl
    simp [yrG,e0]
   rw [e,List.map_id]
   rfl
 | n+1=>by
   have e:=(yc B n).2.1
   show (qo B n).gs.map (QU (qo B n).growth)=_
   rw [e,YE B n,List.map_map]
   refine List.map_congr_left fun g _=>?_
   simp only [QU,yrG,Function.comp,List.map_map]
   rfl
structure UpX (x y:Int×Int):Prop where
 bot:y.2=x.2
 b1:1≤x.2∧x.2≤4
 pos:0≤x.1
 up:x.1≤y.1∨12 < y.1
theorem grw_pos {r:Int} {x:Int×Int} (h0:0≤r) (hp:0≤x.1):0≤(grw r x).1:=by
 unfold grw
 split
 ·have:=Int.mul_nonneg hp (show 0≤100+r by omega)
  show 0≤(x.1 * (100+r)+99) / 100
  omega
 ·exact hp
theorem grw_bot (r:Int) (x:Int×Int):(grw r x).2=x.2:=by
 unfold grw
 split <;> rfl
theorem qaa {r:Int} {x:Int×Int} {n:Nat} (h:¬ zT (jR r n x)):∀m,jR r (n+m) x=jR r n x
 | 0=>rfl
 | m+1=>by
   show grw r (jR r (n+m) x)=_
   rw [qaa h m]
   unfold grw
   rw [if_neg h]
theorem Qe {r:Int} (h0:0≤r) {x:Int×Int} (hx:zT x):∀n,0≤(jR r n x).1∧(jR r n x).2=x.2
 | 0=>⟨hx.1.1,rfl⟩
 | n+1=>by
   obtain ⟨a,b⟩:=Qe h0 hx n
   exact ⟨grw_pos h0 a,(grw_bot r _).trans b⟩
theorem qeE {r:Int} (h0:0≤r) {x:Int×Int} (hx:zT x) (n:Nat):zT (jR r n x)↔(jR r n x).1≤12:=by
 obtain ⟨a,b⟩:=Qe h0 hx n
 exact ⟨fun h=>h.1.2,fun h=>⟨⟨a,h⟩,by rw [b];exact hx.2⟩⟩
theorem qeD {r:Int} {x:Int×Int} {n:Nat} (h:zT (jR r n x)):jR r (n+1) x=(((jR r n x).1 * (100+r)+99) / 100,(jR r n x).2):=by
 show grw r (jR r n x)=_
 unfold grw
 rw [if_pos h]
theorem put1 {W:World} {z:Nat} {v0 v1 u:Value} (h0:W.cell? ⟨z,0,none⟩=some v0) (h1:W.cell? ⟨z,1,none⟩=some v1):(W.setCell ⟨z,0,none⟩ u).cell? ⟨z,0,none⟩=some u∧(W.setCell ⟨z,0,none⟩ u).cell? ⟨z,1,none⟩=some v1:=⟨qQ (qx h0),qc (by simp) h1⟩
set_option maxHeartbeats 4000000 in
set_option maxRecDepth 100000 in
theorem qdU (x:Int×Int) (r:Int) (n:Nat) (hx:zT x) (hr:0≤r∧r≤100) (hn:n≤6) (w:World):Calls qf 118 #[fv x,.int .i64 r,.int .i64 n] w fun e w'=>e=.returned (fv (jR r n x))∧Below w.heap.size w w':=by
 have HF:=Lib.hid (fun j=>Qe hr.1 hx (n:=j))
 have HT:=Lib.hid (fun j=>qeE hr.1 hx (n:=j))
 have HN:=Lib.hid (fun j (h:zT (jR r j x))=>qeD h)
 have HS:=Lib.hid (fun j (h:¬ zT (jR r j x))=>qaa h)
 have h00:jR r 0 x=x:=rfl
 clear hx
 obtain ⟨x1,x2⟩:=x
 simp only [fv] at *
 go_enter s118,ntmps118
 go_upto_region 1 with fail
 obtain ⟨W,hW⟩:∃W,(w.alloc (.cells #[.int .i64 x1,.int .i64 x2] 23)).alloc (.cells #[.int .i64 0,.int .i64 0] 23)=W:=⟨_,rfl⟩
 have c0:W.cell? ⟨w.heap.size,0,none⟩=some (.int .i64 x1):=by subst hW;go_cell
 have c1:W.cell? ⟨w.heap.size,1,none⟩=some (.int .i64 x2):=by subst hW;go_cell
 have f0:W.frozen? ⟨w.heap.size,0,none⟩=false:=by subst hW;go_cell
 have r0:W.cell? ⟨w.heap.size+1,0,none⟩=some (.int .i64 0):=by subst hW;go_cell
 have r1:W.cell? ⟨w.heap.size+1,1,none⟩=some (.int .i64 0):=by subst hW;go_cell
 have k0:W.frozen? ⟨w.heap.size+1,0,none⟩=false:=by subst hW;go_cell
 have k1:W.frozen? ⟨w.heap.size+1,1,none⟩=false:=by subst hW;go_cell
 have hBW:Below w.heap.size w W:=by subst hW;go_grown
 rw [hW]
 clear hW
 obtain ⟨z,hz⟩:∃z,z=w.heap.size:=⟨_,rfl⟩
 rw [← hz] at c0 c1 f0 r0 r1 k0 k1 ⊢
 have HZ:=Lib.hid hz
 clear hz
 go_wp2
 go_loopw [7] (fun i wr=>∃j:Nat,i=.int .i64 j∧j≤n∧wr.cell? ⟨z,0,none⟩=some (.int .i64 (jR r j (x1,x2)).1)∧wr.cell? ⟨z,1,none⟩=some (.int .i64 x2)∧wr.frozen? ⟨z,0,none⟩=false∧wr.cell? ⟨z+1,0,none⟩=some (.int .i64 0)∧wr.cell? ⟨z+1,1,none⟩=some (.int .i64 0)∧wr.frozen? ⟨z+1,0,none⟩=false∧wr.frozen? ⟨z+1,1,none⟩=false∧Below w.heap.size w wr) (fun i _=>n - (intOf i).toNat)
 case atStart=>exact ⟨0,rfl,Nat.zero_le _,by rw [h00];exact c0,c1,f0,r0,r1,k0,k1,hBW⟩
 case round =>
  clear c0 c1 f0 r0 r1 k0 k1 hBW
  obtain ⟨j,rfl,hj,c0,c1,f0,r0,r1,k0,k1,hBr⟩:=hrel
  obtain ⟨p0,p2⟩:=HF.out j
  by_cases hlt:j < n
  ·have j1:(j:Int) < (n:Int):=by omega
   have ht:=HT.out j
   by_cases h12:(jR r j (x1,x2)).1≤12
   ·have hnx:=HN.out j (ht.2 h12)
    rw [p2] at hnx
    have HNX:=Lib.hid hnx
    generalize hg:jR r j (x1,x2)=y at *
    clear hnx ht
    obtain ⟨y1,y2⟩:=y
    simp only at c0 p0 h12 HNX
    obtain ⟨P,hP⟩:∃P:Int,y1 * (100+r)=P:=⟨_,rfl⟩
    have hPb:0≤P∧P≤2400:=by
     rw [← hP]
     exact ⟨Int.mul_nonneg p0 (by omega),Int.le_trans (Int.mul_le_mul h12 (show 100+r≤200 by omega) (by omega) (by omega)) (by decide)⟩
    have wr1:IntKind.i64.wrap (100+r)=100+r:=by rw [IntKind.wrap_i64];omega
    have wr2:IntKind.i64.wrap P=P:=by rw [IntKind.wrap_i64];omega
    have wr3:IntKind.i64.wrap (P+99)=P+99:=by rw [IntKind.wrap_i64];omega
    have hq0:=Int.ediv_nonneg (show 0≤P+99 by omega) (show (0:Int)≤100 by decide)
    have hq1:=Int.ediv_le_self 100 (show 0≤P+99 by omega)
    rw [hP] at HNX
    clear hg
    go_wp2
    go_roundw
    case rel =>
     obtain ⟨d0,d1⟩:=put1 (u:=.int .i64 ((P+99) / 100)) c0 c1
     have n1:∀q,(⟨z,0,none⟩:Addr)≠⟨z+1,q,none⟩:=fun q e=>by simp at e
     exact ⟨j+1,rfl,by omega,by rw [HNX.out];exact d0,d1,by simpa using f0,qc (n1 _) r0,qc (n1 _) r1,by simpa using k0,by simpa using k1,hBr.setCell (by rw [← HZ.out];exact Nat.le_refl _) _⟩
    case measure=>simp [intOf];omega
   ·have hst:=HS.out j (fun h=>h12 (ht.1 h)) (n - j)
    rw [show j+(n - j)=n by omega] at hst
    have HST:=Lib.hid hst
    generalize hg:jR r j (x1,x2)=y at *
    clear hst ht
    obtain ⟨y1,y2⟩:=y
    have HG:=Lib.hid hg
    clear hg
    simp only at c0 p0 h12 p2
    subst p2
    go_wp2
    exact yA results118 ze qP rfl r0 r1 ⟨by rw [HST.out];first | done | rw [HG.out],(hBr.setCell (by rw [HZ.out];exact Nat.le_succ _) _).setCell (by rw [HZ.out];exact Nat.le_succ _) _⟩
  ·obtain rfl:j=n:=by omega
   generalize hg:jR r j (x1,x2)=y at *
   obtain ⟨y1,y2⟩:=y
   have HG:=Lib.hid hg
   clear hg
   simp only at c0 p0 p2
   subst p2
   go_wp2
   exact yA results118 ze qP rfl r0 r1 ⟨by rw [HG.out],(hBr.setCell (by rw [HZ.out];exact Nat.le_succ _) _).setCell (by rw [HZ.out];exact Nat.le_succ _) _⟩
end Go.Proofs.Tryz
