/-
  Lemmas about the program and the machine (C33 to B5), upon which the last text of this claim rests; no condition.
-/
import Derived.Test.YtnpjncjnmpfgpaaGreatDoorG05
set_option linter.unusedSimpArgs false
set_option linter.unusedVariables false
namespace Go.Proofs.Tryz
open Go Go.Load Go.RowKit
def blank (g:Grp):Grp:={ g with ta:=none,tc:=0 }
theorem Zr {l l':List Grp} (h:zI l l'):l'.map blank=l.map blank:=by
 refine List.ext_getElem? fun i=>?_
 rw [List.getElem?_map,List.getElem?_map]
 cases h1:l[i]? with
 | none=>rw [List.getElem?_eq_none (by have:=List.getElem?_eq_none_iff.1 h1;have:=h.1;omega)]
 | some g =>
   have hi:=(List.getElem?_eq_some_iff.1 h1).1
   obtain ⟨g',h2⟩:∃g',l'[i]? = some g':=⟨l'[i]'(by have:=h.1;omega),by simp⟩
   obtain ⟨a,b,c⟩:=h.2 i g g' h1 h2
   rw [h2]
   simp [blank,a,b,c]
theorem zI.trans {a b c:List Grp} (h:zI a b) (k:zI b c):zI a c:=⟨k.1.trans h.1,fun i x z hx hz=>by
 have hi:=(List.getElem?_eq_some_iff.1 hx).1
 obtain ⟨y,hy⟩:∃y,b[i]? = some y:=⟨b[i]'(by have:=h.1;omega),by simp⟩
 obtain ⟨p,q,r⟩:=h.2 i x y hx hy
 obtain ⟨p',q',r'⟩:=k.2 i y z hy hz
 exact ⟨p'.trans p,q'.trans q,r'.trans r⟩⟩
theorem Xf (gs:List Grp) (hours:Int) (i:Nat) (g:Grp):zw (gs.map blank) hours i (blank g)=zw gs hours i g:=by
 unfold zw
 rw [← List.map_take,List.any_map]
 rfl
theorem jr (f f':Nat→Grp→Int) (h:∀i g,f' i (blank g)=f i g):∀(l:List Grp) (i:Nat),qP f' i (l.map blank)=qP f i l
 | [],_=>rfl
 | g :: l,i=>by
   simp only [List.map_cons,qP,h,jr f f' h l]
theorem Zw (B:Bk):checkN { B with gs:=B.gs.map blank,ga:=none,gc:=0 }=checkN B:=by
 unfold checkN
 have e1:zJ { B with gs:=B.gs.map blank,ga:=none,gc:=0 }=zJ B:=rfl
 have e2:yN { B with gs:=B.gs.map blank,ga:=none,gc:=0 }=yN B:=by
  unfold yN
  simp only [List.length_map]
  rw [jr _ _ (Xf B.gs B.hours)]
 rw [e1,e2]
theorem Yq {B:Bk} {l:List Grp} (h:zI B.gs l) (ga:Option Addr) (gc:Nat):checkN { B with gs:=l,ga:=ga,gc:=gc }=checkN B:=by
 rw [← Zw,← Zw B]
 simp only [Zr h]
def qR (B:Bk):Nat→Bk
 | 0=>B
 | n+1=>Yy (qR B n)
theorem Qa (B:Bk):∀n,(qR B n).gs.length=B.gs.length
 | 0=>rfl
 | n+1=>by simp [qR,Yy,Qa B n]
theorem xV (B:Bk):∀n,(qR B n).lim=B.lim∧(qR B n).growth=B.growth∧(qR B n).hours=B.hours∧(qR B n).ga=B.ga∧(qR B n).gc=B.gc
 | 0=>⟨rfl,rfl,rfl,rfl,rfl⟩
 | n+1=>xV B n
theorem xU (B:Bk):∀(n i:Nat) (x:Grp),(qR B n).gs[i]? = some x→∃y:Grp,B.gs[i]? = some y∧x.name=y.name∧x.trunks=y.trunks∧x.traffic.length=y.traffic.length
 | 0,i,x,h=>⟨x,h,rfl,rfl,rfl⟩
 | n+1,i,x,h=>by
   simp only [qR,Yy,List.getElem?_map] at h
   obtain ⟨z,hz,rfl⟩:=Option.map_eq_some_iff.1 h
   obtain ⟨y,hy,a,b,c⟩:=xU B n i z hz
   exact ⟨y,hy,a,b,by simpa [ZO] using c⟩
def Xc (base:Nat) (B:Bk) (n:Nat) (W:World) (g gc:Nat) (l:List Grp) (tb:Nat→Nat):Prop:=zI (qR B n).gs l∧OwnGs base W g l l.length tb∧l.length≤gc
theorem Xc.book {base g gc n:Nat} {B:Bk} {W:World} {l:List Grp} {tb:Nat→Nat} (h:Xc base B n W g gc l tb) (hsm:B.gs.length≤20∧∀x∈B.gs,x.traffic.length≤20∧x.name.size≤100):BookAt W { B with gs:=l,ga:=some ⟨g,0,none⟩,gc:=gc }:=by
 obtain ⟨hS,hO,hc⟩:=h
 have hb:=Yj (B:=qR B n) hS hO hc ⟨by rw [Qa];exact hsm.1,fun x hx=>by
  obtain ⟨i,hi⟩:=List.getElem?_of_mem hx
  obtain ⟨y,hy,a,_,b⟩:=xU B n i x hi
  rw [a,b];exact hsm.2 y (List.mem_of_getElem? hy)⟩
 exact ⟨hb.row,hb.traf,hb.small,hb.cap⟩
theorem Xc.keep {base g gc n:Nat} {B:Bk} {W W1:World} {l:List Grp} {tb:Nat→Nat} (h:Xc base B n W g gc l tb) (hB:Below W.heap.size W W1):Xc base B n W1 g gc l tb:=⟨h.1,h.2.1.keep hB,h.2.2⟩
theorem Xc.filled {base g gc n:Nat} {B:Bk} {W:World} {l:List Grp} {tb:Nat→Nat} (h:Xc base B n W g gc l tb) (ht:∀x∈B.gs,1≤x.traffic.length):∀x∈l,1≤x.traffic.length:=fun x hx=>by
 obtain ⟨i,hi,rfl⟩:=List.getElem_of_mem hx
 have hl:=h.1.1
 obtain ⟨z,hz⟩:∃z,(qR B n).gs[i]? = some z:=⟨(qR B n).gs[i]'(by omega),by simp⟩
 obtain ⟨_,_,c⟩:=h.1.2 i z l[i] hz (by simp)
 obtain ⟨y,hy,_,_,b⟩:=xU B n i z hz
 rw [c,b];exact ht y (List.mem_of_getElem? hy)
theorem Xc.year {base b' g gc n:Nat} {B:Bk} {W W1:World} {l:List Grp} {tb:Nat→Nat} {e:Ending} (h:Xc base B n W g gc l tb) (hb:base≤b') (k:OwnP b' (Yy { B with gs:=l,ga:=some ⟨g,0,none⟩,gc:=gc }) W1 e) :
 ∃g gc l tb,e=.returned (bv { B with gs:=l,ga:=some ⟨g,0,none⟩,gc:=gc })∧Xc base B (n+1) W1 g gc l tb:=by
 obtain ⟨g1,gc1,l1,tb1,e1,hS,hO,hc⟩:=k
 refine ⟨g1,gc1,l1,tb1,e1,?_,hO.mono hb,hc⟩
 have:=YN (r:=B.growth) h.1
 have e:=(xV B n).2.1
 simp only [qR,Yy,e]
 exact this.trans hS
theorem OwnP.first {base:Nat} {B:Bk} {W:World} {e:Ending} (k:OwnP base B W e):∃g gc l tb,e=.returned (bv { B with gs:=l,ga:=some ⟨g,0,none⟩,gc:=gc })∧Xc base B 0 W g gc l tb:=by
 obtain ⟨g1,gc1,l1,tb1,e1,hS,hO,hc⟩:=k
 exact ⟨g1,gc1,l1,tb1,e1,hS,hO,hc⟩
end Go.Proofs.Tryz
namespace Go.Proofs.Tryz
open Go Go.Sim
@[go_sem] theorem s55:qf.funcs[55]? = some f55:=by kernel_rfl
@[go_sem] theorem c55 (a w):(callFunc 55 a).run qf w=.ok (.enter 55 a) w:=qh s55 (by kernel_rfl) (by kernel_rfl) a w
@[go_sem] theorem s50:qf.funcs[50]? = some f50:=by kernel_rfl
@[go_sem] theorem c50 (a w):(callFunc 50 a).run qf w=.ok (.enter 50 a) w:=qh s50 (by kernel_rfl) (by kernel_rfl) a w
@[go_sem] theorem s54:qf.funcs[54]? = some f54:=by kernel_rfl
@[go_sem] theorem c54 (a w):(callFunc 54 a).run qf w=.ok (.enter 54 a) w:=qh s54 (by kernel_rfl) (by kernel_rfl) a w
@[go_sem] theorem s132:qf.funcs[132]? = some f132:=by kernel_rfl
@[go_sem] theorem c132 (a w):(callFunc 132 a).run qf w=.ok (.enter 132 a) w:=qh s132 (by kernel_rfl) (by kernel_rfl) a w
@[go_sem] theorem s122:qf.funcs[122]? = some f122:=by kernel_rfl
@[go_sem] theorem c122 (a w):(callFunc 122 a).run qf w=.ok (.enter 122 a) w:=qh s122 (by kernel_rfl) (by kernel_rfl) a w
@[go_sem] theorem s97:qf.funcs[97]? = some f97:=by kernel_rfl
@[go_sem] theorem c97 (a w):(callFunc 97 a).run qf w=.ok (.enter 97 a) w:=qh s97 (by kernel_rfl) (by kernel_rfl) a w
@[go_sem] theorem s11:qf.funcs[11]? = some f11:=by kernel_rfl
@[go_sem] theorem c11 (a w):(callFunc 11 a).run qf w=.ok (.enter 11 a) w:=qh s11 (by kernel_rfl) (by kernel_rfl) a w
@[go_sem] theorem s48:qf.funcs[48]? = some f48:=by kernel_rfl
@[go_sem] theorem c48 (a w):(callFunc 48 a).run qf w=.ok (.enter 48 a) w:=qh s48 (by kernel_rfl) (by kernel_rfl) a w
@[go_sem] theorem s9:qf.funcs[9]? = some f9:=by kernel_rfl
@[go_sem] theorem c9 (a w):(callFunc 9 a).run qf w=.ok (.enter 9 a) w:=qh s9 (by kernel_rfl) (by kernel_rfl) a w
@[go_sem] theorem s57:qf.funcs[57]? = some f57:=by kernel_rfl
@[go_sem] theorem c57 (a w):(callFunc 57 a).run qf w=.ok (.enter 57 a) w:=qh s57 (by kernel_rfl) (by kernel_rfl) a w
@[go_sem] theorem s13:qf.funcs[13]? = some f13:=by kernel_rfl
@[go_sem] theorem c13 (a w):(callFunc 13 a).run qf w=.ok (.enter 13 a) w:=qh s13 (by kernel_rfl) (by kernel_rfl) a w
@[go_sem] theorem s16:qf.funcs[16]? = some f16:=by kernel_rfl
@[go_sem] theorem c16 (a w):(callFunc 16 a).run qf w=.ok (.enter 16 a) w:=qh s16 (by kernel_rfl) (by kernel_rfl) a w
@[go_sem] theorem s21:qf.funcs[21]? = some f21:=by kernel_rfl
@[go_sem] theorem c21 (a w):(callFunc 21 a).run qf w=.ok (.enter 21 a) w:=qh s21 (by kernel_rfl) (by kernel_rfl) a w
@[go_sem] theorem s52:qf.funcs[52]? = some f52:=by kernel_rfl
@[go_sem] theorem c52 (a w):(callFunc 52 a).run qf w=.ok (.enter 52 a) w:=qh s52 (by kernel_rfl) (by kernel_rfl) a w
@[go_sem] theorem s53:qf.funcs[53]? = some f53:=by kernel_rfl
@[go_sem] theorem c53 (a w):(callFunc 53 a).run qf w=.ok (.enter 53 a) w:=qh s53 (by kernel_rfl) (by kernel_rfl) a w
@[go_sem] theorem s94:qf.funcs[94]? = some f94:=by kernel_rfl
@[go_sem] theorem c94 (a w):(callFunc 94 a).run qf w=.ok (.enter 94 a) w:=qh s94 (by kernel_rfl) (by kernel_rfl) a w
@[go_sem] theorem s95:qf.funcs[95]? = some f95:=by kernel_rfl
@[go_sem] theorem c95 (a w):(callFunc 95 a).run qf w=.ok (.enter 95 a) w:=qh s95 (by kernel_rfl) (by kernel_rfl) a w
@[go_sem] theorem s6:qf.funcs[6]? = some f6:=by kernel_rfl
@[go_sem] theorem c6 (a w):(callFunc 6 a).run qf w=.ok (.enter 6 a) w:=qh s6 (by kernel_rfl) (by kernel_rfl) a w
end Go.Proofs.Tryz
namespace Go.Proofs.Tryz
open Go Go.Load Go.RowKit
structure Five (W:World) (b:Nat) (v0 v1 v2 v3 v4:Value):Prop where
 c:W.cell? ⟨b,0,none⟩=some v0∧W.cell? ⟨b,1,none⟩=some v1∧W.cell? ⟨b,2,none⟩=some v2∧W.cell? ⟨b,3,none⟩=some v3∧W.cell? ⟨b,4,none⟩=some v4
 f:W.frozen? ⟨b,0,none⟩=false∧W.frozen? ⟨b,1,none⟩=false∧W.frozen? ⟨b,2,none⟩=false∧W.frozen? ⟨b,3,none⟩=false∧W.frozen? ⟨b,4,none⟩=false
theorem Five.keep {W W1:World} {b:Nat} {v0 v1 v2 v3 v4:Value} (h:Five W b v0 v1 v2 v3 v4) (hB:Below W.heap.size W W1):Five W1 b v0 v1 v2 v3 v4:=by
 obtain ⟨⟨a0,a1,a2,a3,a4⟩,⟨f0,f1,f2,f3,f4⟩⟩:=h
 exact ⟨⟨qb _ hB a0,qb _ hB a1,qb _ hB a2,qb _ hB a3,qb _ hB a4⟩,⟨qg _ hB a0 f0,qg _ hB a1 f1,qg _ hB a2 f2,qg _ hB a3 f3,qg _ hB a4 f4⟩⟩
theorem Five.put {W:World} {b:Nat} {v0 v1 v2 v3 v4:Value} (u0 u1 u2 u3 u4:Value) (h:Five W b v0 v1 v2 v3 v4):Five (set5 W b u0 u1 u2 u3 u4) b u0 u1 u2 u3 u4:=by
 obtain ⟨⟨a0,a1,a2,a3,a4⟩,⟨f0,f1,f2,f3,f4⟩⟩:=h
 exact ⟨put5 u0 u1 u2 u3 u4 a0 a1 a2 a3 a4,by simpa [set5] using f0,by simpa [set5] using f1,by simpa [set5] using f2,by simpa [set5] using f3,by simpa [set5] using f4⟩
theorem Five.other {W:World} {b c:Nat} {v0 v1 v2 v3 v4:Value} (u0 u1 u2 u3 u4:Value) (h:Five W b v0 v1 v2 v3 v4) (e:b≠c):Five (set5 W c u0 u1 u2 u3 u4) b v0 v1 v2 v3 v4:=by
 obtain ⟨⟨a0,a1,a2,a3,a4⟩,⟨f0,f1,f2,f3,f4⟩⟩:=h
 exact ⟨⟨(qM e).trans a0,(qM e).trans a1,(qM e).trans a2,(qM e).trans a3,(qM e).trans a4⟩,by simpa [set5] using f0,by simpa [set5] using f1,by simpa [set5] using f2,by simpa [set5] using f3,by simpa [set5] using f4⟩
theorem Five.new (W:World) (v0 v1 v2 v3 v4:Value) (ty:TypeId):Five (W.alloc (.cells #[v0,v1,v2,v3,v4] ty)) W.heap.size v0 v1 v2 v3 v4 :=
 ⟨⟨by go_cell,by go_cell,by go_cell,by go_cell,by go_cell⟩,⟨by go_cell,by go_cell,by go_cell,by go_cell,by go_cell⟩⟩
theorem Five.new' {b:Nat} (W:World) (v0 v1 v2 v3 v4:Value) (ty:TypeId) (e:b=W.heap.size):Five (W.alloc (.cells #[v0,v1,v2,v3,v4] ty)) b v0 v1 v2 v3 v4:=by subst e;exact .new W v0 v1 v2 v3 v4 ty
theorem OwnGs.five' {base g k b:Nat} {W:World} {l:List Grp} {tb:Nat→Nat} {v0 v1 v2 v3 v4:Value} (h:OwnGs base W g l k tb) (hk:k=l.length) (hb:b < base):OwnGs base (set5 W b v0 v1 v2 v3 v4) g l k tb :=
 h.five (by have:=h.lo;omega) fun i y hi hy=>by have:=(h.ta i y hi hy).2.1;omega
theorem Xc.five {base g gc n b:Nat} {B:Bk} {W:World} {l:List Grp} {tb:Nat→Nat} {v0 v1 v2 v3 v4:Value} (h:Xc base B n W g gc l tb) (hb:b < base):Xc base B n (set5 W b v0 v1 v2 v3 v4) g gc l tb:=⟨h.1,h.2.1.five' rfl hb,h.2.2⟩
theorem Xc.mono {a b g gc n:Nat} {B:Bk} {W:World} {l:List Grp} {tb:Nat→Nat} (h:Xc b B n W g gc l tb) (e:a≤b):Xc a B n W g gc l tb:=⟨h.1,h.2.1.mono e,h.2.2⟩
def qbE (base:Nat) (B:Bk) (N:Nat) (W:World) (e:Ending):Prop :=
 if checkN (qR B N)≠0 then e=.returned (.tuple #[bz,.int .i64 (checkN (qR B N))])
 else ∃g gc l tb,e=.returned (.tuple #[bv { B with gs:=l,ga:=some ⟨g,0,none⟩,gc:=gc },.int .i64 0])∧Xc base B N W g gc l tb
set_option maxHeartbeats 4000000 in
set_option maxRecDepth 100000 in
theorem Grow_ok (B:Bk) (N:Nat) (w:World) (h:BookAt w B) (hG:Globs w) (hc:checkN B=0) (hn:N≤6):Calls qf 17 #[bv B,.int .i64 N] w fun e w'=>qbE w.heap.size B N w' e∧Below w.heap.size w w':=by
 have hop:=fun W (hB:Below w.heap.size w W)=>yw B true W (h.keep hB) (hG.keep hB)
 simp only [Zm,if_pos hc] at hop
 have hbt:=fun W=>qC (N:Int) 0 6 W ⟨by omega,by omega⟩
 have hV:=qI hc
 have hsm:=h.small
 have hfl:∀g∈B.gs,1≤g.traffic.length:=fun g hg=>by have:=(hV.grp g hg).len;have:=hV.num.2.2.1;omega
 have hown:=fun W (hB:Below w.heap.size w W)=>qbf B W (h.keep hB) hV.len1 hfl
 have HS:=Lib.hid hsm
 have HF:=Lib.hid hfl
 have HV:=Lib.hid hV
 have HG:=Lib.hid hG
 have H1:=Lib.hid hV.num.2.1
 clear hsm hfl hV
 obtain ⟨lim,gr,hr,gs,ga,gc⟩:=B
 simp only [bv,bz] at *
 clear h hG hc
 go_enter s17,ntmps17
 go_upto_region 6 with (first | ((go_at_call 42;(with_reducible refine (hop _ (by go_grown)).mono ?_);rintro e w1 ⟨rfl,hB1⟩;(first | (replace hB:=bcl (by with_reducible assumption) hB1) | (replace hB:=bcl (by go_grown) hB1) | (have hB:=hB1));(try clear hc hg hz);obtain ⟨hc,hg⟩:=qx hB;have hz:=hB.size;clear hB1;(try simp at hz);(try have hlt0:w.heap.size < w1.heap.size:=by omega));have hz5:w.heap.size+1 < w1.heap.size:=(by omega);have hz6:w.heap.size+1 < w1.heap.size+1:=(by omega)) | (go_at_call 65;(with_reducible refine (hbt _).mono ?_);rintro e w1 ⟨rfl,rfl⟩))
 have hF:=((Five.new' (b:=w.heap.size+1) _ _ _ _ _ _ 26 (by simp)).keep hB).keep ((Below.refl _ w1).alloc (Nat.le_refl _) (.cells #[.int .i64 lim.1,.int .i64 lim.2,.int .i64 gr,.int .i64 hr,.slice ga gs.length gc] 67))
 have hF6:=Five.new w1 (.int .i64 lim.1) (.int .i64 lim.2) (.int .i64 gr) (.int .i64 hr) (.slice ga gs.length gc) 67
 have hBw:=(bcl (w:=w) (by go_grown) hB).alloc (w:=w1) (by omega) (.cells #[.int .i64 lim.1,.int .i64 lim.2,.int .i64 gr,.int .i64 hr,.slice ga gs.length gc] 67)
 obtain ⟨W,hW⟩:∃W,w1.alloc (.cells #[.int .i64 lim.1,.int .i64 lim.2,.int .i64 gr,.int .i64 hr,.slice ga gs.length gc] 67)=W:=⟨_,rfl⟩
 have hWs:w1.heap.size < W.heap.size:=by rw [← hW];simp
 rw [hW] at hF hF6 hBw ⊢
 clear hW hc hg hB hz hz6
 obtain ⟨q,hq⟩:∃q,w1.heap.size=q:=⟨_,rfl⟩
 rw [hq] at hF6 hWs ⊢
 have hF6':=hF6
 obtain ⟨⟨e0,e1,e2,e3,e4⟩,_⟩:=hF6'
 go_wp2
 go_at_call 66
 refine (hown _ hBw).mono ?_
 rintro e w2 ⟨hP,hB2⟩
 obtain ⟨g,cg,l,tb,rfl,hN⟩:=hP.first
 replace hN:=hN.mono (show q+1≤W.heap.size from hWs)
 have hqn:w.heap.size+1 < q:=by omega
 have hF:=hF.keep hB2
 have hF6:=hF6.keep hB2
 have hBx:=bcl hBw hB2
 clear hB2 e0 e1 e2 e3 e4 hown hop hbt hP hz5 hBw hWs hq
 obtain ⟨⟨e0,e1,e2,e3,e4⟩,⟨k0,k1,k2,k3,k4⟩⟩:=id hF6
 simp only [bv]
 go_wp2
 have hN5:=hN.five (show q < q+1 by omega) (v0:=.int .i64 lim.1) (v1:=.int .i64 lim.2) (v2:=.int .i64 gr) (v3:=.int .i64 hr) (v4:=.slice (some ⟨g,0,none⟩) l.length cg)
 have hF5:=hF.other (.int .i64 lim.1) (.int .i64 lim.2) (.int .i64 gr) (.int .i64 hr) (.slice (some ⟨g,0,none⟩) l.length cg) (show w.heap.size+1≠q by omega)
 have hF65:=hF6.put (.int .i64 lim.1) (.int .i64 lim.2) (.int .i64 gr) (.int .i64 hr) (.slice (some ⟨g,0,none⟩) l.length cg)
 have hB5:=Below.set5 hBx (b:=q) (by omega) (v0:=.int .i64 lim.1) (v1:=.int .i64 lim.2) (v2:=.int .i64 gr) (v3:=.int .i64 hr) (v4:=.slice (some ⟨g,0,none⟩) l.length cg)
 obtain ⟨W5,hW5⟩:∃W5,set5 w2 q (.int .i64 lim.1) (.int .i64 lim.2) (.int .i64 gr) (.int .i64 hr) (.slice (some ⟨g,0,none⟩) l.length cg)=W5:=⟨_,rfl⟩
 rw [hW5] at hN5 hF5 hF65 hB5
 unfold set5 at hW5
 rw [hW5]
 clear hW5 e0 e1 e2 e3 e4 k0 k1 k2 k3 k4 hF hF6 hBx hN
 go_loopw [27] (fun i wr=>∃k:Nat,i=.int .i64 k∧k≤N∧Below w.heap.size w wr∧∃g gc' l tb,Hid (Xc (q+1) ⟨lim,gr,hr,gs,ga,gc⟩ k wr g gc' l tb)∧Hid (Five wr (w.heap.size+1) (.int .i64 0) (.int .i64 0) (.int .i64 0) (.int .i64 0) (.slice none 0 0))∧Hid (Five wr q (.int .i64 lim.1) (.int .i64 lim.2) (.int .i64 gr) (.int .i64 hr) (.slice (some ⟨g,0,none⟩) l.length gc'))) (fun i _=>N - (intOf i).toNat)
 case atStart=>exact ⟨0,rfl,by omega,hB5,g,cg,l,tb,Lib.hid hN5,Lib.hid hF5,Lib.hid hF65⟩
 case round =>
  clear hN5 hF5 hF65 hB5
  obtain ⟨k,rfl,hk,hBr,g,gc',l,tb,hN,hF,hF6⟩:=hrel
  obtain ⟨⟨e0,e1,e2,e3,e4⟩,⟨k0,k1,k2,k3,k4⟩⟩:=id hF6.out
  by_cases hlt:k < N
  ·have hgr:=JO ⟨lim,gr,hr,l,some ⟨g,0,none⟩,gc'⟩ wr (hN.out.book HS.out) (by rw [hN.out.1.1,Qa];exact HV.out.len1) (hN.out.filled HF.out) H1.out.1 (by have:=H1.out.2;simp only at this ⊢;omega)
   have hk1:(k:Int) < (N:Int):=by omega
   have hk0:(0:Int)≤(k:Int):=Int.natCast_nonneg k
   have hql:q < wr.heap.size:=lt_of_cell e0
   simp only [bv] at hgr
   go_wp2
   go_at_call 67
   refine hgr.mono ?_
   rintro e w3 ⟨hP,hB3⟩
   obtain ⟨g1,gc1,l1,tb1,rfl,hN1⟩:=hN.out.year (show q+1≤wr.heap.size from hql) hP
   have hF:=hF.out.keep hB3
   have hF6:=hF6.out.keep hB3
   have hBx:=bcl hBr hB3
   clear hB3 e0 e1 e2 e3 e4 k0 k1 k2 k3 k4 hgr hP
   obtain ⟨⟨e0,e1,e2,e3,e4⟩,⟨k0,k1,k2,k3,k4⟩⟩:=id hF6
   simp only [bv]
   go_wp2
   go_roundw
   case rel=>exact ⟨k+1,rfl,by omega,Below.set5 hBx (by omega),g1,gc1,l1,tb1,Lib.hid (hN1.five (by omega)),Lib.hid (hF.other _ _ _ _ _ (by omega)),Lib.hid (hF6.put _ _ _ _ _)⟩
   case measure=>simp [intOf];omega
  ·obtain rfl:k=N:=by omega
   have hch:=jc ⟨lim,gr,hr,l,some ⟨g,0,none⟩,gc'⟩ wr (hN.out.book HS.out) (HG.out.keep hBr)
   have hcN:checkN ⟨lim,gr,hr,l,some ⟨g,0,none⟩,gc'⟩=checkN (qR ⟨lim,gr,hr,gs,ga,gc⟩ k):=by
    rw [← Yq hN.out.1 (some ⟨g,0,none⟩) gc']
    have e:=xV ⟨lim,gr,hr,gs,ga,gc⟩ k
    simp only at e
    rw [e.1,e.2.1,e.2.2.1]
   rw [hcN] at hch
   have hql:q < wr.heap.size:=lt_of_cell e0
   obtain ⟨⟨c0,c1,c2,c3,c4⟩,⟨f0,f1,f2,f3,f4⟩⟩:=id hF.out
   have hNN:=Lib.hid hN.out
   obtain ⟨r,hr⟩:∃r,checkN (qR ⟨lim,gr,hr,gs,ga,gc⟩ k)=r:=⟨_,rfl⟩
   rw [hr] at hch
   have HR:=Lib.hid hr
   have hBq:=Lib.hid hBr
   clear hcN hr hN hF hF6
   simp only [bv] at hch
   have hnl:w.heap.size+1 < wr.heap.size:=lt_of_cell c0
   by_cases hr0:r=0
   ·subst hr0
    go_wp2_with (go_at_call 10;refine hch.mono ?_;rintro e w1 ⟨rfl,hB⟩;obtain ⟨hc,hg⟩:=qx hB;have hz1:w.heap.size+1 < w1.heap.size:=(Nat.lt_of_lt_of_le hnl hB.size);have hz2:q < w1.heap.size:=(Nat.lt_of_lt_of_le hql hB.size))
    have hbB:=bcl hBq.out hB
    refine YJ results17 YU Zu rfl rfl (qb _ hB c0) (qb _ hB c1) (qb _ hB c2) (qb _ hB c3) (qb _ hB c4) ⟨?_,Below.set5 hbB (Nat.le_succ _)⟩
    unfold qbE
    rw [if_neg (fun e=>e HR.out)]
    exact ⟨g,gc',l,tb,rfl,((hNN.out.keep hB).five (b:=w.heap.size+1) (by omega)).mono (show w.heap.size≤q+1 by omega)⟩
   ·have hrb:(r != 0)=true:=by simp [hr0]
    go_wp2_with (go_at_call 10;refine hch.mono ?_;rintro e w1 ⟨rfl,hB⟩;obtain ⟨hc,hg⟩:=qx hB;have hz1:w.heap.size+1 < w1.heap.size:=(Nat.lt_of_lt_of_le hnl hB.size);have hz2:q < w1.heap.size:=(Nat.lt_of_lt_of_le hql hB.size))
    have hbB:=bcl hBq.out hB
    refine YJ results17 YU Zu rfl rfl (qb _ hB c0) (qb _ hB c1) (qb _ hB c2) (qb _ hB c3) (qb _ hB c4) ⟨?_,Below.set5 hbB (Nat.le_succ _)⟩
    unfold qbE
    rw [if_pos (by rw [HR.out];exact hr0),HR.out]
    rfl
end Go.Proofs.Tryz
namespace Go.Proofs.Tryz
open Go Go.Sim
@[go_sem] theorem s33:qf.funcs[33]? = some f33:=by kernel_rfl
@[go_sem] theorem c33 (a w):(callFunc 33 a).run qf w=.ok (.enter 33 a) w:=qh s33 (by kernel_rfl) (by kernel_rfl) a w
@[go_sem] theorem s123:qf.funcs[123]? = some f123:=by kernel_rfl
@[go_sem] theorem c123 (a w):(callFunc 123 a).run qf w=.ok (.enter 123 a) w:=qh s123 (by kernel_rfl) (by kernel_rfl) a w
@[go_sem] theorem s7:qf.funcs[7]? = some f7:=by kernel_rfl
@[go_sem] theorem c7 (a w):(callFunc 7 a).run qf w=.ok (.enter 7 a) w:=qh s7 (by kernel_rfl) (by kernel_rfl) a w
@[go_sem] theorem s49:qf.funcs[49]? = some f49:=by kernel_rfl
@[go_sem] theorem c49 (a w):(callFunc 49 a).run qf w=.ok (.enter 49 a) w:=qh s49 (by kernel_rfl) (by kernel_rfl) a w
@[go_sem] theorem s51:qf.funcs[51]? = some f51:=by kernel_rfl
@[go_sem] theorem c51 (a w):(callFunc 51 a).run qf w=.ok (.enter 51 a) w:=qh s51 (by kernel_rfl) (by kernel_rfl) a w
@[go_sem] theorem s32:qf.funcs[32]? = some f32:=by kernel_rfl
@[go_sem] theorem c32 (a w):(callFunc 32 a).run qf w=.ok (.enter 32 a) w:=qh s32 (by kernel_rfl) (by kernel_rfl) a w
@[go_sem] theorem s40:qf.funcs[40]? = some f40:=by kernel_rfl
@[go_sem] theorem c40 (a w):(callFunc 40 a).run qf w=.ok (.enter 40 a) w:=qh s40 (by kernel_rfl) (by kernel_rfl) a w
@[go_sem] theorem s41:qf.funcs[41]? = some f41:=by kernel_rfl
@[go_sem] theorem c41 (a w):(callFunc 41 a).run qf w=.ok (.enter 41 a) w:=qh s41 (by kernel_rfl) (by kernel_rfl) a w
@[go_sem] theorem s14:qf.funcs[14]? = some f14:=by kernel_rfl
@[go_sem] theorem c14 (a w):(callFunc 14 a).run qf w=.ok (.enter 14 a) w:=qh s14 (by kernel_rfl) (by kernel_rfl) a w
@[go_sem] theorem s58:qf.funcs[58]? = some f58:=by kernel_rfl
@[go_sem] theorem c58 (a w):(callFunc 58 a).run qf w=.ok (.enter 58 a) w:=qh s58 (by kernel_rfl) (by kernel_rfl) a w
end Go.Proofs.Tryz
namespace Go.Proofs.Tryz
open Go Go.Load Go.RowKit
def west:ByteArray:=⟨#[119,101,115,116]⟩
def east:ByteArray:=⟨#[101,97,115,116]⟩
def exB (g a b:Nat):Bk:=⟨(1,5),50,2,[⟨west,1,[(1,1),(1,2)],some ⟨a,0,none⟩,2⟩,⟨east,2,[(2,1),(1,1)],some ⟨b,0,none⟩,2⟩],some ⟨g,0,none⟩,2⟩
set_option maxHeartbeats 1000000 in
theorem qez (a b:Int) (w:World):Calls qf 33 #[.int .i64 a,.int .i64 b] w fun e w'=>e=.returned (fv (a,b))∧Below w.heap.size w w':=by
 simp only [fv]
 go_enter s33,ntmps33
 go_wp2
 have c0:=zf w #[.int .i64 a,.int .i64 b] 23 0 (by simp)
 have c1:=zf w #[.int .i64 a,.int .i64 b] 23 1 (by simp)
 exact bodyPost_ret (QQ results33 rfl (xu zl qW c0 c1)) rfl ⟨rfl,(Below.refl _ w).alloc (Nat.le_refl _) _⟩
theorem Xw {W:World} {a o b:Nat} {v0 v1 v2 v3 v4:Value} {l:List (Int×Int)} (h:qL W a o l) (e:a≠b):qL (set5 W b v0 v1 v2 v3 v4) a o l:=fun i x hx =>
 ⟨(qM (by show a≠b;exact e)).trans (h i x hx).1,(qM (by show a≠b;exact e)).trans (h i x hx).2⟩
theorem YH (W:World) (a b c d:Int) (ty:TypeId):qL (W.alloc (.cells #[.int .i64 a,.int .i64 b,.int .i64 c,.int .i64 d] ty)) W.heap.size 0 [(a,b),(c,d)]:=fun i x hx=>by
 have n:=fun j hj=>zf W #[.int .i64 a,.int .i64 b,.int .i64 c,.int .i64 d] ty j hj
 match i,hx with
 | 0,hx=>obtain rfl:=Option.some.inj hx;exact ⟨n 0 (by simp),n 1 (by simp)⟩
 | 1,hx=>obtain rfl:=Option.some.inj hx;exact ⟨n 2 (by simp),n 3 (by simp)⟩
set_option maxHeartbeats 400000 in
theorem Yd (w:World):Calls qf 32 #[] w fun e w'=>(∃g a b,e=.returned (bv (exB g a b))∧BookAt w' (exB g a b))∧Below w.heap.size w w':=by
 have hof:=fun a b W=>qez a b W
 simp only [fv] at hof
 go_enter s32,ntmps32
 go_wp2
 go_at_call 33
 refine (hof _ _ _).mono ?_
 rintro e w1 ⟨rfl,h1⟩
 go_wp2
 go_at_call 33
 refine (hof _ _ _).mono ?_
 rintro e w2 ⟨rfl,h2⟩
 go_wp2
 go_at_call 33
 refine (hof _ _ _).mono ?_
 rintro e w3 ⟨rfl,h3⟩
 have F3:=(((Five.new w (.int .i64 0) (.int .i64 0) (.int .i64 0) (.int .i64 0) (.slice none 0 0) 26).keep h1).keep h2).keep h3
 have B3:=bcl (Below.call (Below.call ((Below.refl _ w).alloc (Nat.le_refl _) _) h1 (Nat.le_refl _)) h2 (Nat.le_refl _)) h3
 clear h1 h2 h3
 go_wp2
 go_at_call 33
 refine (hof _ _ _).mono ?_
 rintro e w4 ⟨rfl,h4⟩
 go_wp2
 go_at_call 33
 refine (hof _ _ _).mono ?_
 rintro e w5 ⟨rfl,h5⟩
 have F5:=((F3.keep ((Below.refl _ w3).alloc (Nat.le_refl _) (.cells #[.int .i64 1,.int .i64 1,.int .i64 1,.int .i64 2] 23))).keep h4).keep h5
 have B5:=bcl (Below.call (B3.alloc B3.size (.cells #[.int .i64 1,.int .i64 1,.int .i64 1,.int .i64 2] 23)) h4 (Nat.le_refl _)) h5
 have P5:qL w5 w3.heap.size 0 [(1,1),(1,2)]:=fun i x hx=>by
  have n:=fun j hj=>zf w3 #[.int .i64 1,.int .i64 1,.int .i64 1,.int .i64 2] 23 j hj
  match i,hx with
  | 0,hx=>obtain rfl:=Option.some.inj hx;exact ⟨qb _ h5 (qb _ h4 (n 0 (by decide))),qb _ h5 (qb _ h4 (n 1 (by decide)))⟩
  | 1,hx=>obtain rfl:=Option.some.inj hx;exact ⟨qb _ h5 (qb _ h4 (n 2 (by decide))),qb _ h5 (qb _ h4 (n 3 (by decide)))⟩
 have hw13:w.heap.size < w3.heap.size:=lt_of_cell F3.c.1
 clear F3 B3 h4 h5
 have F7:=(F5.keep ((Below.refl _ w5).alloc (Nat.le_refl _) (.cells #[.int .i64 2,.int .i64 1,.int .i64 1,.int .i64 1] 23))).keep ((Below.refl _ _).alloc (Nat.le_refl _) (.cells #[.string ⟨#[119,101,115,116]⟩,.int .i64 1,.slice (some ⟨w3.heap.size,0,none⟩) 2 2,.string ⟨#[101,97,115,116]⟩,.int .i64 2,.slice (some ⟨w5.heap.size,0,none⟩) 2 2] 56))
 have B7:=(B5.alloc B5.size (.cells #[.int .i64 2,.int .i64 1,.int .i64 1,.int .i64 1] 23)).alloc (by have:=B5.size;simp;omega) (.cells #[.string ⟨#[119,101,115,116]⟩,.int .i64 1,.slice (some ⟨w3.heap.size,0,none⟩) 2 2,.string ⟨#[101,97,115,116]⟩,.int .i64 2,.slice (some ⟨w5.heap.size,0,none⟩) 2 2] 56)
 obtain ⟨⟨c0,c1,c2,c3,c4⟩,⟨f0,f1,f2,f3,f4⟩⟩:=F7
 have P5:=Lib.hid P5
 have B7:=Lib.hid B7
 clear hof F5 B5
 go_wp2
 have P5:=P5.out
 have P6:=(YH w5 2 1 1 1 23)
 have hw3:w3.heap.size < w5.heap.size:=lt_of_cell (P5 0 _ rfl).1
 have hn:w.heap.size < w3.heap.size:=hw13
 refine qfs results32 YU Zu rfl c0 c1 c2 c3 c4 ⟨⟨w5.heap.size+1,w3.heap.size,w5.heap.size,rfl,?_⟩,Below.set5 B7.out (Nat.le_refl _)⟩
 have A1:Below w5.heap.size w5 (w5.alloc (.cells #[.int .i64 2,.int .i64 1,.int .i64 1,.int .i64 1] 23)):=(Below.refl _ w5).alloc (Nat.le_refl _) _
 have A2:∀(W:World) o,Below W.heap.size W (W.alloc o):=fun W o=>(Below.refl _ W).alloc (Nat.le_refl _) o
 refine ⟨fun _=>⟨w5.heap.size+1,0,rfl,fun i x hx=>?_⟩,fun x hx _=>?_,⟨by show (2:Nat)≤20;decide,fun x hx=>?_⟩,by show (2:Nat)≤2;decide⟩
 ·have n:=fun j hj=>QM (b:=w5.heap.size+1) (w5.alloc (.cells #[.int .i64 2,.int .i64 1,.int .i64 1,.int .i64 1] 23)) #[.string ⟨#[119,101,115,116]⟩,.int .i64 1,.slice (some ⟨w3.heap.size,0,none⟩) 2 2,.string ⟨#[101,97,115,116]⟩,.int .i64 2,.slice (some ⟨w5.heap.size,0,none⟩) 2 2] 56 j hj (by simp)
  have o:∀j,(⟨w5.heap.size+1,j,none⟩:Addr).block≠w.heap.size:=fun j=>by show w5.heap.size+1≠w.heap.size;omega
  match i,hx with
  | 0,hx=>obtain rfl:=Option.some.inj hx;exact ⟨(qM (o _)).trans (n 0 (by simp)),(qM (o _)).trans (n 1 (by simp)),(qM (o _)).trans (n 2 (by simp))⟩
  | 1,hx=>obtain rfl:=Option.some.inj hx;exact ⟨(qM (o _)).trans (n 3 (by simp)),(qM (o _)).trans (n 4 (by simp)),(qM (o _)).trans (n 5 (by simp))⟩
 ·rcases List.mem_cons.1 hx with rfl | hx
  ·exact ⟨w3.heap.size,0,rfl,Xw ((P5.keep A1).keep (A2 _ _)) (by omega)⟩
  ·obtain rfl:=List.mem_singleton.1 hx
   exact ⟨w5.heap.size,0,rfl,Xw (P6.keep (A2 _ _)) (by omega)⟩
 ·rcases List.mem_cons.1 hx with rfl | hx
  ·exact ⟨by show (2:Nat)≤20;decide,by show west.size≤100;decide⟩
  ·obtain rfl:=List.mem_singleton.1 hx
   exact ⟨by show (2:Nat)≤20;decide,by show east.size≤100;decide⟩
theorem Jo (T:Nat) (x:Int×Int) (h:yj x) (hT:T≤7) (w:World) :
 Calls qf 86 #[fv x,.int .i64 T,.func (.func 87) #[] #[]] w fun e w'=>e=.returned (tv (qQ (low x.1 x.2) T) 0)∧Below w.heap.size w w':=by
 obtain ⟨k1,k2,k3,k4⟩:=jP h.1.1 h.1.2 h.2.1 h.2.2
 exact Jq _ (fun args w=>c87 args w) T x _ h hT (fun W=>Zi T _ k1 k2 k3 k4 hT W) w
theorem Jp (T:Nat) (x:Int×Int) (h:yj x) (hT:T≤7) (w:World) :
 Calls qf 86 #[fv x,.int .i64 T,.func (.func 88) #[] #[]] w fun e w'=>e=.returned (tv (qJ (low x.1 x.2) T) 0)∧Below w.heap.size w w':=by
 obtain ⟨k1,k2,k3,k4⟩:=jP h.1.1 h.1.2 h.2.1 h.2.2
 exact Jq _ (fun args w=>c88 args w) T x _ h hT (fun W=>Qd T _ k1 k2 k3 k4 hT W) w
def xA (x:Int×Int) (T:Nat):Int×Int:=low (x.1 * (qJ x T).2 - (qJ x T).1 * x.2) (x.2 * (qJ x T).2)
theorem yZ {x:Int×Int} (h1:0≤x.1) (h2:x.1≤12) (h3:1≤x.2) (h4:x.2≤4) (T:Nat) (hT:T≤7):0≤(qJ x T).1∧1≤(qJ x T).2∧(qJ x T).2≤655360000000∧(qJ x T).1≤1966080000000∧(qJ x T).1 * x.2≤x.1 * (qJ x T).2:=by
 obtain ⟨q1,q2,q3,q4⟩:=xW h1 h2 h3 h4 T hT
 have hp:(40:Int) ^ T≤40 ^ 7:=by exact_mod_cast Nat.pow_le_pow_right (by decide) hT
 simp only [qJ]
 generalize qQ x T=q at *
 have q5:q.2≤163840000000:=Int.le_trans q4 (Int.le_trans hp (by decide))
 have m0:0≤x.1 * q.1:=Int.mul_nonneg h1 q1
 have m2:x.1 * q.1≤12 * q.2:=Int.le_trans (Int.mul_le_mul_of_nonneg_right h2 q1) (by omega)
 have m3:x.2 * q.2≤4 * q.2:=Int.mul_le_mul_of_nonneg_right h4 (by omega)
 have m4:0 < x.2 * q.2:=Int.mul_pos (by omega) (by omega)
 obtain ⟨t1,t2,t3,t4,_⟩:=xw m0 m4
 refine ⟨t1,t3,by omega,by omega,?_⟩
 have hg:=XU (a:=x.1 * q.1) m4
 have e1:(low (x.1 * q.1) (x.2 * q.2)).1 * (Int.gcd (x.1 * q.1) (x.2 * q.2):Int)=x.1 * q.1:=Int.ediv_mul_cancel (Int.gcd_dvd_left ..)
 have e2:(low (x.1 * q.1) (x.2 * q.2)).2 * (Int.gcd (x.1 * q.1) (x.2 * q.2):Int)=x.2 * q.2:=Int.ediv_mul_cancel (Int.gcd_dvd_right ..)
 refine Int.le_of_mul_le_mul_right ?_ hg
 have c1:(low (x.1 * q.1) (x.2 * q.2)).1 * x.2 * (Int.gcd (x.1 * q.1) (x.2 * q.2):Int)=x.1 * q.1 * x.2:=by rw [Int.mul_right_comm,e1]
 have c2:x.1 * (low (x.1 * q.1) (x.2 * q.2)).2 * (Int.gcd (x.1 * q.1) (x.2 * q.2):Int)=x.1 * (x.2 * q.2):=by rw [Int.mul_assoc,e2]
 rw [c1,c2,Int.mul_assoc,Int.mul_comm q.1]
 exact Int.mul_le_mul_of_nonneg_left (Int.mul_le_mul_of_nonneg_left q2 (by omega)) h1
set_option maxHeartbeats 1000000 in
theorem qaI (T:Nat) (x:Int×Int) (h1:0≤x.1) (h2:x.1≤12) (h3:1≤x.2) (h4:x.2≤4) (hT:T≤7) (w:World) :
 Calls qf 89 #[fv x,.int .i64 T] w fun e w'=>e=.returned (fv (xA x T))∧Below w.heap.size w w':=by
 obtain ⟨q1,q2,q3,q4,q5⟩:=yZ h1 h2 h3 h4 T hT
 have hlost:=fun W=>Qd T x h1 h2 h3 h4 hT W
 simp only [xA]
 generalize qJ x T=q at *
 have m1:x.1 * q.2≤12 * q.2:=Int.mul_le_mul_of_nonneg_right h2 (by omega)
 have m2:x.2 * q.2≤4 * q.2:=Int.mul_le_mul_of_nonneg_right h4 (by omega)
 have hminus:=fun W=>qaa x q W h1 (by omega) q1 (by omega) (by omega) (by omega) q5
 simp only [fv] at *
 clear m1 m2 q5
 go_enter s89,ntmps89
 go_wp2_with fail
 go_region_held3 (fun w'=>w'.cell? ⟨w.heap.size,0,none⟩=some (.int .i64 x.1)∧w'.cell? ⟨w.heap.size,1,none⟩=some (.int .i64 x.2)∧w'.frozen? ⟨w.heap.size+1,0,none⟩=false∧w'.frozen? ⟨w.heap.size+1,1,none⟩=false ∧
  w'.cell? ⟨w.heap.size+1,0,none⟩=some (atD w' ⟨w.heap.size+1,0,none⟩)∧w'.cell? ⟨w.heap.size+1,1,none⟩=some (atD w' ⟨w.heap.size+1,1,none⟩)∧Below w.heap.size w w')
  (first | exact ⟨by go_cell,by go_cell,by go_cell,by go_cell,qO (qA (v:=.int .i64 0) (by go_cell)),qO (qA (v:=.int .i64 0) (by go_cell)),by go_grown⟩ | exact held22 ‹_› hB | exact Xq _ _ ‹_› (by simp) (by simp)) (first | (go_at_call 88;refine (hlost _).mono ?_;rintro e w1 ⟨rfl,hB⟩) | (go_at_call 90;refine (hminus _).mono ?_;rintro e w1 ⟨rfl,hB⟩))
 go_wp2
 rename_i hH
 obtain ⟨c0,c1,hG⟩:=Xp hH
 exact yU results89 zT zF rfl c0 c1 ⟨rfl,hG⟩
theorem ZQ (T:Nat) (x:Int×Int) (h:yj x) (hT:T≤7) (w:World) :
 Calls qf 86 #[fv x,.int .i64 T,.func (.func 89) #[] #[]] w fun e w'=>e=.returned (tv (xA (low x.1 x.2) T) 0)∧Below w.heap.size w w':=by
 obtain ⟨k1,k2,k3,k4⟩:=jP h.1.1 h.1.2 h.2.1 h.2.2
 exact Jq _ (fun args w=>c89 args w) T x _ h hT (fun W=>qaI T _ k1 k2 k3 k4 hT W) w
def QC (what:Int×Int→Nat→Int×Int) (x:Int×Int) (T:Int):Value:=if yj x∧0≤T∧T≤7 then tv (what (low x.1 x.2) T.toNat) 0 else tv (0,0) 1
theorem qar (T:Int) (x:Int×Int) (w:World):Calls qf 86 #[fv x,.int .i64 T,.func (.func 87) #[] #[]] w fun e w'=>e=.returned (QC qQ x T)∧Below w.heap.size w w':=by
 unfold QC
 by_cases h:yj x∧0≤T∧T≤7
 ·obtain ⟨n,rfl⟩:=Int.eq_ofNat_of_zero_le h.2.1
  rw [if_pos h]
  exact Jo n x h.1 (by omega) w
 ·rw [if_neg h];exact qbx _ T x h w
theorem qfM (T:Int) (x:Int×Int) (w:World):Calls qf 86 #[fv x,.int .i64 T,.func (.func 88) #[] #[]] w fun e w'=>e=.returned (QC qJ x T)∧Below w.heap.size w w':=by
 unfold QC
 by_cases h:yj x∧0≤T∧T≤7
 ·obtain ⟨n,rfl⟩:=Int.eq_ofNat_of_zero_le h.2.1
  rw [if_pos h]
  exact Jp n x h.1 (by omega) w
 ·rw [if_neg h];exact qbx _ T x h w
theorem qaq (T:Int) (x:Int×Int) (w:World):Calls qf 86 #[fv x,.int .i64 T,.func (.func 89) #[] #[]] w fun e w'=>e=.returned (QC xA x T)∧Below w.heap.size w w':=by
 unfold QC
 by_cases h:yj x∧0≤T∧T≤7
 ·obtain ⟨n,rfl⟩:=Int.eq_ofNat_of_zero_le h.2.1
  rw [if_pos h]
  exact ZQ n x h.1 (by omega) w
 ·rw [if_neg h];exact qbx _ T x h w
theorem Yc (what:Int×Int→Nat→Int×Int) (x:Int×Int) (T:Int):∃r a,QC what x T=tv r a:=by
 unfold QC;split <;> exact ⟨_,_,rfl⟩
set_option maxHeartbeats 1000000 in
theorem Loss_any (T:Int) (x:Int×Int) (w:World):Calls qf 34 #[fv x,.int .i64 T] w fun e w'=>e=.returned (QC qQ x T)∧Below w.heap.size w w':=by
 have ht:=fun W=>qar T x W
 obtain ⟨r,a,hr⟩:=Yc qQ x T
 simp only [hr] at ht ⊢
 simp only [fv,tv] at *
 go_enter s34,ntmps34
 go_wp2_with (go_at_call 86;(with_reducible refine (ht _).mono ?_);rintro e w1 ⟨rfl,hB1⟩;(first | (replace hB:=bcl (by with_reducible assumption) hB1) | (replace hB:=bcl (by go_grown) hB1) | (have hB:=hB1));(try clear hc hg hz);obtain ⟨hc,hg⟩:=qx hB;have hz:=hB.size;clear hB1;(try simp at hz);(try have hlt0:w.heap.size < w1.heap.size:=by omega))
 have c0:w1.cell? ⟨w.heap.size+1,0,none⟩=some (.int .i64 0):=by rw [hc _ _ (by simp)];go_cell
 have c1:w1.cell? ⟨w.heap.size+1,1,none⟩=some (.int .i64 0):=by rw [hc _ _ (by simp)];go_cell
 have hp:=ZP (.int .i64 r.1) (.int .i64 r.2) c0 c1
 refine bodyPost_ret (qZ results34 rfl rfl (xu zl qW hp.1 hp.2)) rfl ⟨rfl,?_⟩
 exact ((bcl (w:=w) (by go_grown) hB).setCell (by simp) _).setCell (by simp) _
set_option maxHeartbeats 1000000 in
theorem Lost_any (T:Int) (x:Int×Int) (w:World):Calls qf 35 #[fv x,.int .i64 T] w fun e w'=>e=.returned (QC qJ x T)∧Below w.heap.size w w':=by
 have ht:=fun W=>qfM T x W
 obtain ⟨r,a,hr⟩:=Yc qJ x T
 simp only [hr] at ht ⊢
 simp only [fv,tv] at *
 go_enter s35,ntmps35
 go_wp2_with (go_at_call 86;(with_reducible refine (ht _).mono ?_);rintro e w1 ⟨rfl,hB1⟩;(first | (replace hB:=bcl (by with_reducible assumption) hB1) | (replace hB:=bcl (by go_grown) hB1) | (have hB:=hB1));(try clear hc hg hz);obtain ⟨hc,hg⟩:=qx hB;have hz:=hB.size;clear hB1;(try simp at hz);(try have hlt0:w.heap.size < w1.heap.size:=by omega))
 have c0:w1.cell? ⟨w.heap.size+1,0,none⟩=some (.int .i64 0):=by rw [hc _ _ (by simp)];go_cell
 have c1:w1.cell? ⟨w.heap.size+1,1,none⟩=some (.int .i64 0):=by rw [hc _ _ (by simp)];go_cell
 have hp:=ZP (.int .i64 r.1) (.int .i64 r.2) c0 c1
 refine bodyPost_ret (qZ results35 rfl rfl (xu zl qW hp.1 hp.2)) rfl ⟨rfl,?_⟩
 exact ((bcl (w:=w) (by go_grown) hB).setCell (by simp) _).setCell (by simp) _
set_option maxHeartbeats 1000000 in
theorem qax (T:Int) (x:Int×Int) (w:World):Calls qf 36 #[fv x,.int .i64 T] w fun e w'=>e=.returned (QC xA x T)∧Below w.heap.size w w':=by
 have ht:=fun W=>qaq T x W
 obtain ⟨r,a,hr⟩:=Yc xA x T
 simp only [hr] at ht ⊢
 simp only [fv,tv] at *
 go_enter s36,ntmps36
 go_wp2_with (go_at_call 86;(with_reducible refine (ht _).mono ?_);rintro e w1 ⟨rfl,hB1⟩;(first | (replace hB:=bcl (by with_reducible assumption) hB1) | (replace hB:=bcl (by go_grown) hB1) | (have hB:=hB1));(try clear hc hg hz);obtain ⟨hc,hg⟩:=qx hB;have hz:=hB.size;clear hB1;(try simp at hz);(try have hlt0:w.heap.size < w1.heap.size:=by omega))
 have c0:w1.cell? ⟨w.heap.size+1,0,none⟩=some (.int .i64 0):=by rw [hc _ _ (by simp)];go_cell
 have c1:w1.cell? ⟨w.heap.size+1,1,none⟩=some (.int .i64 0):=by rw [hc _ _ (by simp)];go_cell
 have hp:=ZP (.int .i64 r.1) (.int .i64 r.2) c0 c1
 refine bodyPost_ret (qZ results36 rfl rfl (xu zl qW hp.1 hp.2)) rfl ⟨rfl,?_⟩
 exact ((bcl (w:=w) (by go_grown) hB).setCell (by simp) _).setCell (by simp) _
def overN (m n:Int) (x:Int×Int):Value:=if (0≤m∧m≤7)∧0≤n∧n≤7 then QC qQ x (m+n) else tv (0,0) 1
set_option maxHeartbeats 1000000 in
theorem Over_any (m n:Int) (x:Int×Int) (w:World):Calls qf 39 #[.int .i64 m,.int .i64 n,fv x] w fun e w'=>e=.returned (overN m n x)∧Below w.heap.size w w':=by
 unfold overN
 by_cases hm:0≤m∧m≤7
 ·by_cases hn:0≤n∧n≤7
  ·rw [if_pos ⟨hm,hn⟩]
   have ht:=fun W=>qar (m+n) x W
   obtain ⟨r,a,hr⟩:=Yc qQ x (m+n)
   simp only [hr] at ht ⊢
   simp only [fv,tv] at *
   go_enter s39,ntmps39
   go_wp2_with (first | (go_at_call 86;(with_reducible refine (ht _).mono ?_);rintro e w1 ⟨rfl,hB1⟩;(first | (replace hB:=bcl (by with_reducible assumption) hB1) | (replace hB:=bcl (by go_grown) hB1) | (have hB:=hB1));(try clear hc hg hz);obtain ⟨hc,hg⟩:=qx hB;have hz:=hB.size;clear hB1;(try simp at hz);(try have hlt0:w.heap.size < w1.heap.size:=by omega)) | (go_at_call 85;(with_reducible refine (zM _ _ hm).mono ?_);rintro e w1 ⟨rfl,rfl⟩) | (go_at_call 85;(with_reducible refine (zM _ _ hn).mono ?_);rintro e w1 ⟨rfl,rfl⟩))
   have c0:w1.cell? ⟨w.heap.size+1,0,none⟩=some (.int .i64 0):=by rw [hc _ _ (by simp)];go_cell
   have c1:w1.cell? ⟨w.heap.size+1,1,none⟩=some (.int .i64 0):=by rw [hc _ _ (by simp)];go_cell
   have hp:=ZP (.int .i64 r.1) (.int .i64 r.2) c0 c1
   refine bodyPost_ret (qZ results39 rfl rfl (xu zl qW hp.1 hp.2)) rfl ⟨rfl,?_⟩
   exact ((bcl (w:=w) (by go_grown) hB).setCell (by simp) _).setCell (by simp) _
  ·rw [if_neg (fun h=>hn h.2)]
   simp only [fv,tv] at *
   go_enter s39,ntmps39
   go_wp2_with (first | (go_at_call 85;(with_reducible refine (zM _ _ hm).mono ?_);rintro e w1 ⟨rfl,rfl⟩) | (go_at_call 85;(with_reducible refine (jg _ _ hn).mono ?_);rintro e w1 ⟨rfl,rfl⟩))
   go_returns
   exact ⟨rfl,by go_grown⟩
 ·rw [if_neg (fun h=>hm h.1)]
  simp only [fv,tv] at *
  go_enter s39,ntmps39
  go_wp2_with (first | (go_at_call 85;(with_reducible refine (jg _ _ hm).mono ?_);rintro e w1 ⟨rfl,rfl⟩))
  go_returns
  exact ⟨rfl,by go_grown⟩
end Go.Proofs.Tryz
namespace Go.Proofs.Tryz
open Go Go.Load Go.RowKit Go.Instr
def kv (x:Int×Int) (T:Nat):Value:=.agg #[.int .i64 x.1,.int .i64 x.2,.int .i64 T]
theorem ck (e:Bool) (a b c:Int) (w:World):(checkKey e 10000 161 (.agg #[.int .i64 a,.int .i64 b,.int .i64 c])).run qf w=.ok () w:=by kernel_rfl
theorem sq151:qf.underlying 161=some (.struct (qf.fieldsOf 161)):=by kernel_rfl
theorem sp74:qf.underlying 72=some (.struct (qf.fieldsOf 72)):=by kernel_rfl
theorem hq151:qf.stoodInHeld 161=false:=by kernel_rfl
theorem hp74:qf.stoodInHeld 72=false:=by kernel_rfl
theorem eqp (d:Nat) (a b a' b':Int) (w:World):(Op.equalIn (d+2) 72 (.agg #[.int .i64 a,.int .i64 b]) (.agg #[.int .i64 a',.int .i64 b'])).run qf w=.ok (a == a' && b == b') w:=by
 rw [run_equalIn_agg w (d+1) 72 _ _ sp74 hp74]
 have e0:(Op.eqFields (d+1) #[.int .i64 a,.int .i64 b] #[.int .i64 a',.int .i64 b'] (qf.fieldsOf 72).toList).run qf w=(if (!(a == a'))=true then (pure false:Sem Bool) else Op.eqFields (d+1) #[.int .i64 a,.int .i64 b] #[.int .i64 a',.int .i64 b'] (qf.fieldsOf 72).toList.tail).run qf w:=by kernel_rfl
 rw [e0]
 cases h:(a == a') with
 | false=>simp
 | true =>
   have e1:(Op.eqFields (d+1) #[.int .i64 a,.int .i64 b] #[.int .i64 a',.int .i64 b'] (qf.fieldsOf 72).toList.tail).run qf w=(if (!(b == b'))=true then (pure false:Sem Bool) else pure true).run qf w:=by kernel_rfl
   simp only [Bool.not_true,Bool.false_eq_true,if_false]
   rw [e1]
   cases h:(b == b') <;> simp
theorem eqk (a b c a' b' c':Int) (w:World):(Op.equal 161 (.agg #[.int .i64 a,.int .i64 b,.int .i64 c]) (.agg #[.int .i64 a',.int .i64 b',.int .i64 c'])).run qf w=.ok ((a == a' && b == b') && c == c') w:=by
 show (Op.equalIn (9999+1) 161 _ _).run qf w=_
 rw [run_equalIn_agg w 9999 161 _ _ sq151 hq151]
 have e0:(Op.eqFields 9999 #[.int .i64 a,.int .i64 b,.int .i64 c] #[.int .i64 a',.int .i64 b',.int .i64 c'] (qf.fieldsOf 161).toList).run qf w=(Op.equalIn 9999 72 (.agg #[.int .i64 a,.int .i64 b]) (.agg #[.int .i64 a',.int .i64 b']) >>= fun r=>if (!r)=true then (pure false:Sem Bool) else Op.eqFields 9999 #[.int .i64 a,.int .i64 b,.int .i64 c] #[.int .i64 a',.int .i64 b',.int .i64 c'] (qf.fieldsOf 161).toList.tail).run qf w:=by kernel_rfl
 rw [e0,Sem.run_bind,show (9999:Nat)=9997+2 from rfl,eqp,Result.andThen_ok]
 cases h:(a == a' && b == b') with
 | false=>simp
 | true =>
   have e1:(Op.eqFields (9997+2) #[.int .i64 a,.int .i64 b,.int .i64 c] #[.int .i64 a',.int .i64 b',.int .i64 c'] (qf.fieldsOf 161).toList.tail).run qf w=(if (!(c == c'))=true then (pure false:Sem Bool) else pure true).run qf w:=by kernel_rfl
   simp only [Bool.not_true,Bool.false_eq_true,if_false]
   rw [e1]
   cases h:(c == c') <;> simp
theorem eqkv (p q:(Int×Int)×Nat) (w:World):(Op.equal 161 (kv p.1 p.2) (kv q.1 q.2)).run qf w=.ok (decide (p=q)) w:=by
 obtain ⟨⟨a,b⟩,c⟩:=p
 obtain ⟨⟨a',b'⟩,c'⟩:=q
 have e:((a == a' && b == b') && (c:Int) == (c':Int))=decide (((a,b),c)=((a',b'),c')):=by
  rw [Bool.eq_iff_iff]
  simp only [Bool.and_eq_true,beq_iff_eq,decide_eq_true_eq,Prod.mk.injEq,Int.natCast_inj]
 show (Op.equal 161 (.agg #[.int .i64 a,.int .i64 b,.int .i64 c]) (.agg #[.int .i64 a',.int .i64 b',.int .i64 c'])).run qf w=_
 rw [eqk,e]
def Ents (es:List MapEntry) (L:List ((Int×Int)×Nat)):Prop:=es.map (fun e=>(e.key,e.val))=L.map fun p=>(kv p.1 p.2,fv (qJ p.1 p.2))
theorem qbX (p:(Int×Int)×Nat):∀(es:List MapEntry) (L:List ((Int×Int)×Nat)) (i:Nat) (w:World),Ents es L→∃r,(findAsking 161 (kv p.1 p.2) es i).run qf w=.ok r w∧(p∈L→∃j,r=some (j,fv (qJ p.1 p.2)))∧(p∉L→r=none)
 | [],L,i,w,h=>by
   cases L with
   | nil=>exact ⟨none,rfl,(fun h=>absurd h List.not_mem_nil),fun _=>rfl⟩
   | cons q L=>simp [Ents] at h
 | e :: es,L,i,w,h=>by
   cases L with
   | nil=>simp [Ents] at h
   | cons q L =>
     simp only [Ents,List.map_cons,List.cons.injEq,Prod.mk.injEq] at h
     obtain ⟨⟨hk,hv⟩,ht⟩:=h
     obtain ⟨r,h1,h2,h3⟩:=qbX p es L (i+1) w ht
     unfold findAsking
     rw [Sem.run_bind,hk,eqkv,Result.andThen_ok]
     by_cases hpq:p=q
     ·subst hpq
      exact ⟨_,by rw [if_pos (by simp)];rfl,fun _=>⟨i,by rw [hv]⟩,fun h=>absurd List.mem_cons_self h⟩
     ·refine ⟨r,by rw [if_neg (by simpa using hpq)];exact h1,fun h=>h2 ?_,fun h=>h3 fun h'=>h (List.mem_cons_of_mem _ h')⟩
      rcases List.mem_cons.1 h with h | h
      ·exact absurd h hpq
      ·exact h
theorem Yw (p:(Int×Int)×Nat) (es:List MapEntry) (L:List ((Int×Int)×Nat)) (w:World) (h:Ents es L):∃r,(findKey 161 (kv p.1 p.2) es).run qf w=.ok r w∧(p∈L→∃j,r=some (j,fv (qJ p.1 p.2)))∧(p∉L→r=none):=by
 unfold findKey
 rw [Sem.run_bind]
 rw [run_underlying sq151,Result.andThen_ok]
 cases es with
 | nil =>
   cases L with
   | nil=>exact ⟨none,rfl,(fun h=>absurd h List.not_mem_nil),fun _=>rfl⟩
   | cons q L=>simp [Ents] at h
 | cons e es=>exact qbX p (e :: es) L 0 w h
def Jt (W:World) (m:Nat) (L:List ((Int×Int)×Nat)):Prop:=∃es clock,W.heap[m]? = some (.map es clock)∧Ents es.toList L
theorem qcR {W:World} {m:Nat} {L:List ((Int×Int)×Nat)} (h:Jt W m L) (x:Int×Int) (T:Nat):(Instr.lookup 112 (.map (some m)) (.agg #[.int .i64 x.1,.int .i64 x.2,.int .i64 T]) true).run qf W=.ok (if (x,T)∈L then .tuple #[fv (qJ x T),.bool true] else .tuple #[fv (0,0),.bool false]) W:=by
 obtain ⟨es,clock,h1,h2⟩:=h
 obtain ⟨r,hr,h3,h4⟩:=Yw (x,T) es.toList L W h2
 unfold Instr.lookup
 have hu:(Go.underlying 112).run qf W=.ok (.map 161 72) W:=by kernel_rfl
 have hg:(getObj m).run qf W=.ok (.map es clock) W:=by simp [getObj,Sem.run,h1]
 have hz:(zeroValue 72).run qf W=.ok (fv (0,0)) W:=by kernel_rfl
 simp only [Sem.run_bind,hu,hg,Result.andThen_ok,Sem.run_pure,ck]
 show ((findKey 161 (kv x T) es.toList).run qf W).andThen _=_
 rw [hr,Result.andThen_ok]
 by_cases hm:(x,T)∈L
 ·obtain ⟨j,rfl⟩:=h3 hm
  simp [hm]
 ·obtain rfl:=h4 hm
  simp [hm,hz]
theorem qdo {W:World} {m:Nat} {L:List ((Int×Int)×Nat)} (h:Jt W m L) (x:Int×Int) (T:Nat) (hn:(x,T)∉L):∃W1,(Instr.mapUpdate 112 (.map (some m)) (.agg #[.int .i64 x.1,.int .i64 x.2,.int .i64 T]) (fv (qJ x T))).run qf W=.ok () W1∧Jt W1 m (L ++ [(x,T)])∧W.grownBy W1 (some m)∧W1.heap.size=W.heap.size:=by
 obtain ⟨es,clock,h1,h2⟩:=h
 obtain ⟨r,hr,h3,h4⟩:=Yw (x,T) es.toList L W h2
 obtain rfl:=h4 hn
 have hu:(Go.underlying 112).run qf W=.ok (.map 161 72) W:=by kernel_rfl
 have hg:(getObj m).run qf W=.ok (.map es clock) W:=by simp [getObj,Sem.run,h1]
 have hlt:m < W.heap.size:=(Array.getElem?_eq_some_iff.1 h1).1
 refine ⟨W.putObj m (.map (es.push { key:=kv x T,val:=fv (qJ x T),born:=clock }) (clock+1)),?_,⟨_,_,World.putObj_heap_same hlt,?_⟩,grownBy_putObj' W _ _,by simp [World.putObj]⟩
 ·unfold Instr.mapUpdate
  simp only [Sem.run_bind,hu,hg,Result.andThen_ok,ck]
  show ((findKey 161 (kv x T) es.toList).run qf W).andThen _=_
  rw [hr,Result.andThen_ok]
  show (setObj m _).run qf W=_
  unfold setObj
  simp [Sem.run,h1,World.putObj]
  rfl
 ·unfold Ents at h2 ⊢
  simp [h2]
def Zv (m:Nat) (w w':World):Prop:=(∃L,Jt w' m L)∧w.grownBy w' (some m)
theorem Jt.block {W W1:World} {m:Nat} {L:List ((Int×Int)×Nat)} (h:Jt W m L) (e:W1.heap[m]? = W.heap[m]?):Jt W1 m L:=by
 obtain ⟨es,c,h1,h2⟩:=h
 exact ⟨es,c,e.trans h1,h2⟩
theorem Jt.lt {W:World} {m:Nat} {L:List ((Int×Int)×Nat)} (h:Jt W m L):m < W.heap.size:=by
 obtain ⟨es,c,h1,h2⟩:=h
 exact (Array.getElem?_eq_some_iff.1 h1).1
theorem Jt.keep {W W1:World} {m:Nat} {L:List ((Int×Int)×Nat)} (h:Jt W m L) (hB:Below W.heap.size W W1):Jt W1 m L:=h.block (hB.block m h.lt)
theorem zL {w w1 w2:World} {r:Option Nat} (h:w.grownBy w1 r) (k:w1.grownBy w2 r):w.grownBy w2 r :=
 ⟨k.os.trans h.os,k.tape.trans h.tape,k.output.trans h.output,Nat.le_trans h.size k.size,fun b hb hr=>(k.block b (Nat.lt_of_lt_of_le hb h.size) hr).trans (h.block b hb hr)⟩
theorem zh {w w1:World} {r:Option Nat} (h:Below w.heap.size w w1):w.grownBy w1 r:=⟨h.os,h.tape,h.output,h.size,fun k hk _=>h.block k hk⟩
theorem yI {w w1:World} {r:Option Nat} (h:w.grownBy w1 r) {p:Addr} (hp:w.heap.size≤p.block) (v:Value):w.grownBy (w1.setCell p v) r :=
 ⟨h.os,h.tape,h.output,by simpa using h.size,fun k hk hr=>(Below.heap_setCell _ _ _ _ (by omega)).trans (h.block k hk hr)⟩
theorem qp {w w1:World} {m:Nat} (h:w.grownBy w1 (some m)) {p:Addr} {v:Value} (hc:w.cell? p=some v) (hp:p.block≠m):w1.cell? p=some v:=h.cell hc (by simpa using hp)
theorem qB {w w1:World} {m:Nat} (h:w.grownBy w1 (some m)) {p:Addr} {v:Value} (hc:w.cell? p=some v) (hf:w.frozen? p=false) (hp:p.block≠m):w1.frozen? p=false :=
 (World.frozen?_of_block (w:=w) (h.block p.block (lt_of_cell hc) (by simpa using hp))).trans hf
set_option maxHeartbeats 2000000 in
set_option maxRecDepth 100000 in
theorem lost_any (m:Nat) (L:List ((Int×Int)×Nat)) (T:Nat) (x:Int×Int) (h1:0≤x.1) (h2:x.1≤12) (h3:1≤x.2) (h4:x.2≤4) (hT:T≤7) (w:World) (hL:Jt w m L) :
 Calls qf 131 #[.map (some m),fv x,.int .i64 T] w fun e w'=>e=.returned (fv (qJ x T))∧Zv m w w':=by
 have hlo:=fun W=>Qd T x h1 h2 h3 h4 hT W
 have hlt:=hL.lt
 have HL:=Lib.hid fun (W:World) (h:Jt W m L)=>qcR h x T
 have HU:=Lib.hid fun (W:World) (h:Jt W m L) (hn:(x,T)∉L)=>qdo h x T hn
 generalize qJ x T=r at *
 simp only [fv] at *
 have HM:=Lib.hid hL
 clear hL
 have pre:∀{W:World},Below w.heap.size w W→Zv m w W:=fun hB=>⟨⟨L,HM.out.keep hB⟩,zh hB⟩
 by_cases hin:(x,T)∈L
 ·go_enter s131,ntmps131
  go_wp2
  obtain ⟨W,hW⟩:∃W,((w.alloc (Obj.cells #[.int .i64 x.1,.int .i64 x.2] 72)).alloc (Obj.cells #[.int .i64 0,.int .i64 0] 72)).alloc (Obj.cells #[.int .i64 x.1,.int .i64 x.2,.int .i64 T] 161)=W:=⟨_,rfl⟩
  have hB:Below w.heap.size w W:=by subst hW;go_grown
  have c0:W.cell? ⟨w.heap.size+1,0,none⟩=some (.int .i64 0):=by subst hW;go_cell
  have c1:W.cell? ⟨w.heap.size+1,1,none⟩=some (.int .i64 0):=by subst hW;go_cell
  have f0:W.frozen? ⟨w.heap.size+1,0,none⟩=false:=by subst hW;go_cell
  have f1:W.frozen? ⟨w.heap.size+1,1,none⟩=false:=by subst hW;go_cell
  have hs:w.heap.size+1 < W.heap.size:=by subst hW;simp
  rw [hW]
  clear hW
  rw [HL.out W (HM.out.keep hB),if_pos hin]
  go_wp2
  have hp:=ZP (.int .i64 r.1) (.int .i64 r.2) c0 c1
  refine bodyPost_ret (QQ results131 rfl (xu zT zF (qi hp.1) (qi hp.2))) rfl ⟨rfl,pre ?_⟩
  exact ((hB.setCell (p:=⟨w.heap.size+1,0,none⟩) (Nat.le_succ _) _).setCell (p:=⟨w.heap.size+1,1,none⟩) (Nat.le_succ _) _).alloc (by simp;omega) _
 ·go_enter s131,ntmps131
  go_wp2
  obtain ⟨W,hW⟩:∃W,((w.alloc (Obj.cells #[.int .i64 x.1,.int .i64 x.2] 72)).alloc (Obj.cells #[.int .i64 0,.int .i64 0] 72)).alloc (Obj.cells #[.int .i64 x.1,.int .i64 x.2,.int .i64 T] 161)=W:=⟨_,rfl⟩
  have hB:Below w.heap.size w W:=by subst hW;go_grown
  have a0:W.cell? ⟨w.heap.size,0,none⟩=some (.int .i64 x.1):=by subst hW;go_cell
  have a1:W.cell? ⟨w.heap.size,1,none⟩=some (.int .i64 x.2):=by subst hW;go_cell
  have c0:W.cell? ⟨w.heap.size+1,0,none⟩=some (.int .i64 0):=by subst hW;go_cell
  have c1:W.cell? ⟨w.heap.size+1,1,none⟩=some (.int .i64 0):=by subst hW;go_cell
  have f0:W.frozen? ⟨w.heap.size+1,0,none⟩=false:=by subst hW;go_cell
  have f1:W.frozen? ⟨w.heap.size+1,1,none⟩=false:=by subst hW;go_cell
  have q0:W.cell? ⟨w.heap.size+1+1,0,none⟩=some (.int .i64 x.1):=by subst hW;go_cell
  have q1:W.cell? ⟨w.heap.size+1+1,1,none⟩=some (.int .i64 x.2):=by subst hW;go_cell
  have q2:W.cell? ⟨w.heap.size+1+1,2,none⟩=some (.int .i64 T):=by subst hW;go_cell
  have hs:w.heap.size+1+1 < W.heap.size:=by subst hW;simp
  have hs1:w.heap.size+1 < W.heap.size:=by omega
  have hs2:w.heap.size < W.heap.size:=by omega
  rw [hW]
  clear hW
  rw [HL.out W (HM.out.keep hB),if_neg hin]
  go_wp2_with (go_at_call 88;refine (hlo _).mono ?_;rintro e w1 ⟨rfl,hB1⟩;have z0:=qb ⟨W.heap.size,0,none⟩ hB1 (v:=.int .i64 0) (by go_cell);have z1:=qb ⟨W.heap.size,1,none⟩ hB1 (v:=.int .i64 0) (by go_cell);have y0:=qg ⟨W.heap.size,0,none⟩ hB1 (v:=.int .i64 0) (by go_cell) (by go_cell);have y1:=qg ⟨W.heap.size,1,none⟩ hB1 (v:=.int .i64 0) (by go_cell) (by go_cell);have c0:=qb _ hB1 (qi c0);have c1:=qb _ hB1 (qi c1);have f0:=qg _ hB1 (qi ‹W.cell? ⟨w.heap.size+1,0,none⟩=_›) (qo ‹W.cell? ⟨w.heap.size+1,0,none⟩=_› f0);have f1:=qg _ hB1 (qi ‹W.cell? ⟨w.heap.size+1,1,none⟩=_›) (qo ‹W.cell? ⟨w.heap.size+1,1,none⟩=_› f1);have q0:=qb _ hB1 (qi q0);have q1:=qb _ hB1 (qi q1);have q2:=qb _ hB1 (qi q2);have hz:=hB1.size;simp at hz;have hBx:=bcl (w:=w) (by go_grown) hB1)
  obtain ⟨W2,hW2⟩:∃W2,(w1.setCell ⟨W.heap.size,0,none⟩ (.int .i64 r.1)).setCell ⟨W.heap.size,1,none⟩ (.int .i64 r.2)=W2:=⟨_,rfl⟩
  have hB2:Below w.heap.size w W2:=by subst hW2;exact (hBx.setCell (by simp <;> omega) _).setCell (by simp <;> omega) _
  have z0':W2.cell? ⟨W.heap.size,0,none⟩=some (.int .i64 r.1):=by subst hW2;exact (ZP _ _ z0 z1).1
  have z1':W2.cell? ⟨W.heap.size,1,none⟩=some (.int .i64 r.2):=by subst hW2;exact (ZP _ _ z0 z1).2
  have nq:∀i j k,k≠W.heap.size→(⟨W.heap.size,i,none⟩:Addr)≠⟨k,j,none⟩:=fun i j k h e=>h (congrArg Addr.block e).symm
  have c0:W2.cell? ⟨w.heap.size+1,0,none⟩=some (.int .i64 0):=by subst hW2;exact qd (nq _ _ _ (by omega)) (qd (nq _ _ _ (by omega)) c0)
  have c1:W2.cell? ⟨w.heap.size+1,1,none⟩=some (.int .i64 0):=by subst hW2;exact qd (nq _ _ _ (by omega)) (qd (nq _ _ _ (by omega)) c1)
  have f0:W2.frozen? ⟨w.heap.size+1,0,none⟩=false:=by subst hW2;simpa using f0
  have f1:W2.frozen? ⟨w.heap.size+1,1,none⟩=false:=by subst hW2;simpa using f1
  rw [hW2]
  obtain ⟨W3,h3,h4,h5,h6⟩:=HU.out W2 (HM.out.keep hB2) hin
  rw [h3]
  have hmw:m≠W.heap.size:=by omega
  have hmw1:m≠w.heap.size+1:=by omega
  have z0':=qp h5 z0' (Ne.symm hmw)
  have z1':=qp h5 z1' (Ne.symm hmw)
  have f0:=qB h5 c0 f0 (Ne.symm hmw1)
  have f1:=qB h5 c1 f1 (Ne.symm hmw1)
  have c0:=qp h5 c0 (Ne.symm hmw1)
  have c1:=qp h5 c1 (Ne.symm hmw1)
  clear h3 hW2 hB1 hBx
  go_wp2
  refine yU results131 zT zF rfl c0 c1 ⟨rfl,⟨L ++ [(x,T)],?_⟩,?_⟩
  ·exact h4.block ((Below.heap_setCell _ _ _ _ (by simp <;> omega)).trans (Below.heap_setCell _ _ _ _ (by simp <;> omega)))
  ·exact yI (yI (zL (zh hB2) h5) (p:=⟨w.heap.size+1,0,none⟩) (Nat.le_succ _) _) (p:=⟨w.heap.size+1,1,none⟩) (Nat.le_succ _) _
theorem sp23:qf.underlying 23=some (.struct (qf.fieldsOf 23)):=by kernel_rfl
theorem hp23:qf.stoodInHeld 23=false:=by kernel_rfl
theorem eqf (d:Nat) (a b a' b':Int) (w:World):(Op.equalIn (d+2) 23 (.agg #[.int .i64 a,.int .i64 b]) (.agg #[.int .i64 a',.int .i64 b'])).run qf w=.ok (a == a' && b == b') w:=by
 rw [run_equalIn_agg w (d+1) 23 _ _ sp23 hp23]
 have e0:(Op.eqFields (d+1) #[.int .i64 a,.int .i64 b] #[.int .i64 a',.int .i64 b'] (qf.fieldsOf 23).toList).run qf w=(if (!(a == a'))=true then (pure false:Sem Bool) else Op.eqFields (d+1) #[.int .i64 a,.int .i64 b] #[.int .i64 a',.int .i64 b'] (qf.fieldsOf 23).toList.tail).run qf w:=by kernel_rfl
 rw [e0]
 cases h:(a == a') with
 | false=>simp
 | true =>
   have e1:(Op.eqFields (d+1) #[.int .i64 a,.int .i64 b] #[.int .i64 a',.int .i64 b'] (qf.fieldsOf 23).toList.tail).run qf w=(if (!(b == b'))=true then (pure false:Sem Bool) else pure true).run qf w:=by kernel_rfl
   simp only [Bool.not_true,Bool.false_eq_true,if_false]
   rw [e1]
   cases h:(b == b') <;> simp
@[go_sem] theorem eqf_run (a b a' b':Int) (w:World):(Op.equalIn 10000 23 (.agg #[.int .i64 a,.int .i64 b]) (.agg #[.int .i64 a',.int .i64 b'])).run qf w=.ok (a == a' && b == b') w:=eqf 9998 a b a' b' w
@[go_sem] theorem neqf_run (a b a' b':Int) (w:World):(binOp .neq 23 (.agg #[.int .i64 a,.int .i64 b]) (.agg #[.int .i64 a',.int .i64 b'])).run qf w=.ok (.bool (!(a == a' && b == b'))) w:=by
  rw [run_neq_struct,eqf_run];rfl
theorem hm23:qf.eqGuardType qf.depth 23=false:=by kernel_rfl
@[go_sem] theorem guardf_run (op:BinOp) (p q:Operand) (xs ys:Array Value) (w:World):(eqGuard op 23 p q (.agg xs) (.agg ys)).run qf w=.ok () w:=run_eqGuard_agg w op _ p q xs ys hm23
def xG (w:World) (v:Value) (L:List (Int×Int)):Prop:=∃a c,v=.slice a L.length c∧(1≤L.length→∃b o,a=some ⟨b,o,none⟩∧qL w b o L)
set_option maxHeartbeats 2000000 in
set_option maxRecDepth 100000 in
theorem jC (va vb:Value) (A B:List (Int×Int)) (w:World) (hA:xG w va A) (hB:xG w vb B) (h1:A.length≤100) (h2:B.length≤100):Calls qf 41 #[va,vb] w fun e w'=>e=.returned (.bool (decide (A=B)))∧Below w.heap.size w w':=by
 obtain ⟨aa,ca,rfl,ha⟩:=hA
 obtain ⟨ab,cb,rfl,hb⟩:=hB
 have HA:=Lib.hid ha
 have HB:=Lib.hid hb
 clear ha hb
 by_cases hl:A.length=B.length
 ·have hli:(A.length:Int)=(B.length:Int):=by omega
  have HL:=Lib.hid hl
  clear hl
  go_enter s41,ntmps41
  go_wp2
  go_loopw [5] (fun i wr=>∃k:Nat,i=.int .i64 k∧k≤A.length∧Below w.heap.size w wr∧Hid (∀j,j < k→A[j]? = B[j]?)) (fun i _=>A.length - (intOf i).toNat)
  case atStart=>exact ⟨0,rfl,by omega,.refl _ _,Lib.hid fun j hj=>absurd hj (by omega)⟩
  case round =>
   obtain ⟨k,rfl,hk,hBr,HK⟩:=hrel
   have hk0:(0:Int)≤(k:Int):=Int.natCast_nonneg k
   by_cases l1:k < A.length
   ·have l2:k < B.length:=by have:=HL.out;omega
    obtain ⟨x,hx⟩:∃x,A[k]? = some x:=⟨A[k],by simp [l1]⟩
    obtain ⟨y,hy⟩:∃y,B[k]? = some y:=⟨B[k],by simp [l2]⟩
    obtain ⟨ba,oa,rfl,ra⟩:=HA.out (by omega)
    obtain ⟨bb,ob,rfl,rb⟩:=HB.out (by omega)
    obtain ⟨a0,a1⟩:=ra k x hx
    obtain ⟨b0,b1⟩:=rb k y hy
    have a0:=qb _ hBr a0
    have a1:=qb _ hBr a1
    have b0:=qb _ hBr b0
    have b1:=qb _ hBr b1
    have i1:(k:Int) < (A.length:Int):=by omega
    have i2:(k:Int) < (B.length:Int):=by omega
    have HX:=Lib.hid (And.intro hx hy)
    clear ra rb hx hy hli
    by_cases e:x=y
    ·subst e
     have hq:(!(x.1 == x.1 && x.2 == x.2))=false:=by simp
     go_wp2
     go_region
     go_wp2
     go_roundw
     case rel=>exact ⟨k+1,rfl,by omega,(by first | exact hBr.drew | exact below_drewN hBr _ | go_grown),Lib.hid fun j hj=>by
      by_cases e:j=k
      ·subst e;rw [HX.out.1,HX.out.2]
      ·exact HK.out j (by omega)⟩
     case measure=>simp [intOf];omega
    ·have hq:(x.1 == y.1 && x.2 == y.2)=false:=by
      cases hq:(x.1 == y.1 && x.2 == y.2) with
      | false=>rfl
      | true=>simp at hq;exact absurd (Prod.ext hq.1 hq.2) e
     have HN:Hid (decide (A=B)=false):=Lib.hid (decide_eq_false fun h=>e (by rw [h] at HX;exact Option.some.inj (HX.out.1.symm.trans HX.out.2)))
     go_wp2
     go_region
     go_wp2
     go_ret
     exact ⟨by rw [HN.out];rfl,(by first | exact hBr.drew | exact below_drewN hBr _ | go_grown)⟩
   ·have i1:¬ (k:Int) < (A.length:Int):=by omega
    have HT:Hid (decide (A=B)=true):=Lib.hid (decide_eq_true (List.ext_getElem? fun j=>by
     by_cases hj:j < k
     ·exact HK.out j hj
     ·rw [List.getElem?_eq_none (by omega),List.getElem?_eq_none (by have:=HL.out;omega)]))
    go_wp2
    go_ret
    exact ⟨by rw [HT.out];rfl,hBr⟩
 ·have hli:((A.length:Int) != (B.length:Int))=true:=bne_iff_ne.2 (by omega)
  have HN:Hid (decide (A=B)=false):=Lib.hid (decide_eq_false fun e=>hl (by rw [e]))
  clear hl
  go_enter s41,ntmps41
  go_wp2
  go_ret
  exact ⟨by rw [HN.out];rfl,.refl _ _⟩
end Go.Proofs.Tryz
namespace Go.Proofs.Tryz
open Go Go.Load Go.RowKit
def redN (a b:Nat):Int×Int:=(((a / Nat.gcd a b:Nat):Int),((b / Nat.gcd a b:Nat):Int))
set_option maxHeartbeats 1000000 in
theorem qaC (a b:Nat) (w:World) (ha:a < 4611686018427387904) (hb:1≤b∧b < 4611686018427387904):Calls qf 123 #[.int .i64 a,.int .i64 b] w fun e w'=>e=.returned (fv (redN a b))∧Below w.heap.size w w':=by
 have HG:Hid (1≤Nat.gcd a b):=Lib.hid (Nat.gcd_pos_of_pos_right _ hb.1)
 simp only [fv]
 go_enter s123,ntmps123
 go_wp2
 go_loopw [5,6] (fun p q wr=>∃u v:Nat,p=.int .i64 u∧q=.int .i64 v∧u < 4611686018427387904∧v < 4611686018427387904∧Hid (Nat.gcd u v=Nat.gcd a b)∧Below w.heap.size w wr∧wr.cell? ⟨w.heap.size,0,none⟩=some (.int .i64 0)∧wr.cell? ⟨w.heap.size,1,none⟩=some (.int .i64 0)∧wr.frozen? ⟨w.heap.size,0,none⟩=false∧wr.frozen? ⟨w.heap.size,1,none⟩=false) (fun _ q _=>(intOf q).toNat)
 case atStart=>exact ⟨a,b,rfl,rfl,ha,hb.2,Lib.hid rfl,by go_grown,by go_cell,by go_cell,by go_cell,by go_cell⟩
 case round =>
  obtain ⟨u,v,rfl,rfl,hu,hv,HUV,hBr,c0,c1,f0,f1⟩:=hrel
  have hu0:(0:Int)≤(u:Int):=Int.natCast_nonneg u
  have hv0:(0:Int)≤(v:Int):=Int.natCast_nonneg v
  by_cases h:0 < v
  ·have h1:(0:Int) < (v:Int):=by omega
   have h2:((v:Int) == 0)=false:=by rw [beq_eq_false_iff_ne];omega
   go_wp2
   go_region
   go_wp2
   go_roundw
   case rel=>exact ⟨v,u % v,rfl,by rw [Int.natCast_emod],hv,Nat.lt_of_lt_of_le (Nat.mod_lt _ h) (by omega),Lib.hid (by rw [← HUV.out,Nat.gcd_comm v,← Nat.gcd_rec,Nat.gcd_comm]),hBr.drew,c0,c1,f0,f1⟩
   case measure =>
    have:=Nat.mod_lt u h
    have e:((u:Int) % (v:Int))=((u % v:Nat):Int):=(Int.natCast_emod u v).symm
    show ((u:Int) % (v:Int)).toNat < (v:Int).toNat
    rw [e,Int.toNat_natCast,Int.toNat_natCast];exact this
  ·obtain rfl:v=0:=by omega
   have hg:u=Nat.gcd a b:=by rw [← HUV.out];simp
   have hu1:(1:Int)≤(u:Int):=by have:=HG.out;omega
   have hu2:((u:Int) == 0)=false:=by rw [beq_eq_false_iff_ne];omega
   have q0:=Int.ediv_nonneg (show (0:Int)≤(a:Int) by omega) (show (0:Int)≤(u:Int) by omega)
   have q1:=Int.ediv_le_self (u:Int) (show (0:Int)≤(a:Int) by omega)
   have q2:=Int.ediv_nonneg (show (0:Int)≤(b:Int) by omega) (show (0:Int)≤(u:Int) by omega)
   have q3:=Int.ediv_le_self (u:Int) (show (0:Int)≤(b:Int) by omega)
   have e1:(redN a b).1=(a:Int) / (u:Int):=by rw [hg];simp [redN]
   have e2:(redN a b).2=(b:Int) / (u:Int):=by rw [hg];simp [redN]
   have E1:=Lib.hid e1
   have E2:=Lib.hid e2
   have HQ:=Lib.hid hg
   clear e1 e2
   clear hg
   go_wp2
   go_region
   go_wp2
   exact yU (w1:=wr.drew) (b:=w.heap.size) (v0:=.int .i64 ((a:Int) / (u:Int))) (v1:=.int .i64 ((b:Int) / (u:Int))) results123 zl qW rfl c0 c1 ⟨by rw [E1.out,E2.out],(hBr.drew.setCell (Nat.le_refl _) _).setCell (Nat.le_refl _) _⟩
def fairN (x:Int×Int):Bool:=x == redN x.1.toNat x.2.toNat
def Qz (t b n:Nat):Int×Int:=qQ (low (t:Int) (b:Int)) n
def okF (x:Int×Int):Prop:=0≤x.1∧x.1≤x.2∧0 < x.2∧x.2≤8589934592
instance (x:Int×Int):Decidable (okF x):=by unfold okF;infer_instance
set_option maxHeartbeats 6000000 in
theorem qbF (x y:Int×Int) (w:World) (h1:0≤x.1) (h2:0 < x.2) (h3:0≤y.1) (h4:0 < y.2) (h5:x.1 < 4611686018427387904) (h6:x.2 < 4611686018427387904) (h7:y.1 < 4611686018427387904) (h8:y.2 < 4611686018427387904) :
 Calls qf 49 #[fv x,fv y] w fun e w'=>e=.returned (.bool (above y x))∧Below w.heap.size w w':=by
 obtain ⟨a0,b0⟩:=x
 obtain ⟨c0,d0⟩:=y
 simp only [fv] at *
 go_enter s49,ntmps49
 go_wp2
 go_loopw [] (fun wr=>∃a b c d:Int,0≤a∧0 < b∧0≤c∧0 < d∧a < 4611686018427387904∧b < 4611686018427387904∧c < 4611686018427387904∧d < 4611686018427387904∧Hid (above (c,d) (a,b)=above (c0,d0) (a0,b0)) ∧
  wr.cell? ⟨w.heap.size,0,none⟩=some (.int .i64 a)∧wr.cell? ⟨w.heap.size,1,none⟩=some (.int .i64 b)∧wr.cell? ⟨w.heap.size+1,0,none⟩=some (.int .i64 c)∧wr.cell? ⟨w.heap.size+1,1,none⟩=some (.int .i64 d) ∧
  wr.frozen? ⟨w.heap.size,0,none⟩=false∧wr.frozen? ⟨w.heap.size,1,none⟩=false∧wr.frozen? ⟨w.heap.size+1,0,none⟩=false∧wr.frozen? ⟨w.heap.size+1,1,none⟩=false∧w.heap.size+2≤wr.heap.size∧Below w.heap.size w wr)
  (fun wr=>cellNat wr ⟨w.heap.size,1,none⟩+cellNat wr ⟨w.heap.size+1,1,none⟩)
 case atStart=>exact ⟨a0,b0,c0,d0,h1,h2,h3,h4,h5,h6,h7,h8,Lib.hid rfl,by go_cell,by go_cell,by go_cell,by go_cell,by go_cell,by go_cell,by go_cell,by go_cell,by simp,by go_grown⟩
 case round =>
  clear h1 h2 h3 h4 h5 h6 h7 h8
  obtain ⟨a,b,c,d,h1,h2,h3,h4,h5,h6,h7,h8,HA,k0,k1,k2,k3,g0,g1,g2,g3,hsz,hB⟩:=hrel
  have e1:=Int.ediv_nonneg h1 (Int.le_of_lt h2)
  have e2:=Int.ediv_nonneg h3 (Int.le_of_lt h4)
  have e3:=Int.ediv_le_self b h1
  have e4:=Int.ediv_le_self d h3
  have e5:=Int.emod_nonneg a (Int.ne_of_gt h2)
  have e6:=Int.emod_lt_of_pos a h2
  have e7:=Int.emod_nonneg c (Int.ne_of_gt h4)
  have e8:=Int.emod_lt_of_pos c h4
  have n1:(b == 0)=false:=by rw [beq_eq_false_iff_ne];omega
  have n2:(d == 0)=false:=by rw [beq_eq_false_iff_ne];omega
  go_wp2
  go_region
  all_goals go_wp2
  all_goals go_region
  all_goals go_wp2
  ·have hne:(a / b != c / d)=true:=by assumption
   have hne':c / d≠a / b:=fun e=>by simp [e] at hne
   go_returns
   refine ⟨?_,(hB.drew).drew⟩
   rw [← HA.out]
   unfold above
   simp only [qbJ h4 h2 hne']
   rfl
  ·have heq:(a / b != c / d)=false:=by assumption
   have heq':c / d=a / b:=(bne_eq_false_iff_eq.1 heq).symm
   have z1:a % b=0:=by assumption
   go_returns
   refine ⟨?_,(hB.drew).drew⟩
   rw [← HA.out]
   unfold above
   simp only [ZU h4 h2 heq',z1,Int.zero_mul]
   have:(0 < c % d * b)↔(0 < c % d):=⟨fun h=>(Int.lt_or_eq_of_le e7).elim id fun h0=>by rw [← h0,Int.zero_mul] at h;omega,fun h=>Int.mul_pos h h2⟩
   simp only [this]
   rfl
  ·have heq:(a / b != c / d)=false:=by assumption
   have heq':c / d=a / b:=(bne_eq_false_iff_eq.1 heq).symm
   have z1:¬ a % b=0:=by assumption
   have zz:(a % b == 0)=true∨(c % d == 0)=true:=by assumption
   have z2:c % d=0:=by
    rcases zz with h | h
    ·exact absurd (beq_iff_eq.1 h) z1
    ·exact beq_iff_eq.1 h
   go_returns
   refine ⟨?_,(hB.drew).drew⟩
   rw [← HA.out]
   unfold above
   have hn:¬ a % b * d < 0:=Int.not_lt.2 (Int.mul_nonneg e5 (Int.le_of_lt h4))
   simp only [ZU h4 h2 heq',z2,Int.zero_mul,hn,decide_false]
   rfl
  ·have heq:(a / b != c / d)=false:=by assumption
   have heq':c / d=a / b:=(bne_eq_false_iff_eq.1 heq).symm
   have z1:¬ a % b=0:=by assumption
   have zz:(a % b == 0)=false∧(c % d == 0)=false:=by assumption
   have z2:c % d≠0:=beq_eq_false_iff_ne.1 zz.2
   have hA:above (c,d) (a,b)=decide ((a % b) * d < (c % d) * b):=by
    unfold above
    exact decide_eq_decide.2 (ZU h4 h2 heq')
   go_roundw
   case rel =>
    refine ⟨d,c % d,b,a % b,by omega,by omega,by omega,by omega,by omega,by omega,by omega,by omega,Lib.hid ?_,by go_cell,by go_cell,by go_cell,by go_cell,by go_cell,by go_cell,by go_cell,by go_cell,by simpa using hsz,?_⟩
    ·rw [← HA.out,hA]
     unfold above
     simp only [Int.mul_comm]
    ·exact (((((hB.setCell (p:=⟨w.heap.size,0,none⟩) (Nat.le_refl _) _).setCell (p:=⟨w.heap.size,1,none⟩) (Nat.le_refl _) _).setCell (p:=⟨w.heap.size+1,0,none⟩) (Nat.le_succ _) _).setCell (p:=⟨w.heap.size+1,1,none⟩) (Nat.le_succ _) _).drew).drew
   case measure =>
    rw [zZ k1,zZ k3,zZ (n:=c % d) (by go_cell),zZ (n:=a % b) (by go_cell)]
    omega
def okS (x:Int×Int) (m:Int):Prop:=0≤x.1∧x.1≤16 * m∧0 < x.2∧x.2≤m
instance (x:Int×Int) (m:Int):Decidable (okS x m):=by unfold okS;infer_instance
def Xg (t b n:Nat):Int×Int:=qJ (low (t:Int) (b:Int)) n
def carrB (t b n:Nat):Int×Int:=xA (low (t:Int) (b:Int)) n
def sumB (t b n:Nat):Bool :=
 fairN (Xg t b n) && fairN (carrB t b n) && fairN (Qz t b n) && decide (okS (Xg t b n) 34359738368) && decide (okS (carrB t b n) 34359738368) && decide (okS (Qz t b n) 8589934592) &&
 decide (((t:Int) * (Xg t b n).2 < 4611686018427387904∧(b:Int) * (Xg t b n).2 < 4611686018427387904)∧(Xg t b n).1 * b≤t * (Xg t b n).2) &&
 decide (redN ((t:Int) * (Xg t b n).2 - (Xg t b n).1 * b).toNat ((b:Int) * (Xg t b n).2).toNat=carrB t b n) && !above (carrB t b n) (n,1) &&
 decide (Xg t b n=redN (t * (Qz t b n).1.toNat) (b * (Qz t b n).2.toNat))
theorem sum_all:((List.range 13).all fun t=>(List.range 4).all fun b=>(List.range 8).all fun n=>sumB t (b+1) n)=true:=by decide +kernel
def XP (n:Nat):Nat→Nat
 | 0=>1
 | j+1=>XP n j * max (n - j) 1
def qdt (t b n:Nat):Nat→Nat
 | 0=>0
 | j+1=>qdt t b n j+XP n j * t ^ (n - j) * b ^ j
def refB (t b n:Nat):Bool :=
 decide (redN (t ^ n) (qdt t b n (n+1))=Qz t b n) && decide (1≤qdt t b n (n+1)) &&
 (List.range (n+2)).all fun j=>decide (XP n j≤5040) && decide (t ^ (n - j)≤35831808) && decide (b ^ j≤65536) && decide (qdt t b n j≤4000000000000000)
theorem ref_all:((List.range 13).all fun t=>(List.range 4).all fun b=>(List.range 8).all fun n=>refB t (b+1) n)=true:=by decide +kernel
theorem qfr {t b n:Nat} (ht:t≤12) (hb:1≤b∧b≤4) (hn:n≤7):redN (t ^ n) (qdt t b n (n+1))=Qz t b n∧1≤qdt t b n (n+1)∧∀j,j≤n+1→XP n j≤5040∧t ^ (n - j)≤35831808∧b ^ j≤65536∧qdt t b n j≤4000000000000000:=by
 have h:=ref_all
 rw [List.all_eq_true] at h
 have h:=h t (List.mem_range.2 (by omega))
 rw [List.all_eq_true] at h
 have h:=h (b - 1) (List.mem_range.2 (by omega))
 rw [List.all_eq_true] at h
 have h:=h n (List.mem_range.2 (by omega))
 rw [show b - 1+1=b by omega] at h
 unfold refB at h
 simp only [Bool.and_eq_true,decide_eq_true_eq,List.all_eq_true,List.mem_range] at h
 refine ⟨h.1.1,h.1.2,fun j hj=>?_⟩
 have:=h.2 j (by omega)
 exact ⟨this.1.1.1,this.1.1.2,this.1.2,this.2⟩
structure KSt (w W:World) (l:List (Addr×Value)):Prop where
 cs:∀p∈l,W.cell? p.1=some p.2
 gl:Globs W
 bw:Below w.heap.size w W
section
variable {w W w1:World} {l:List (Addr×Value)}
theorem KSt.call (h:KSt w W l) (hB:Below W.heap.size W w1):KSt w w1 l:=⟨fun p hp=>qb _ hB (h.cs p hp),h.gl.keep hB,bcl h.bw hB⟩
theorem KSt.c2 {p q:Addr} {x y:Value} (h:KSt w W ((p,x) :: (q,y) :: l)):(W.cell? p=some x∧W.cell? q=some y)∧KSt w W l:=⟨⟨h.cs (p,x) (by simp),h.cs (q,y) (by simp)⟩,fun r hr=>h.cs r (by simp [hr]),h.gl,h.bw⟩
theorem KSt.c5 {p q r s t:Addr} {x y z u v:Value} (h:KSt w W ((p,x) :: (q,y) :: (r,z) :: (s,u) :: (t,v) :: l)):(W.cell? p=some x∧W.cell? q=some y∧W.cell? r=some z∧W.cell? s=some u∧W.cell? t=some v)∧KSt w W l:=⟨⟨h.cs (p,x) (by simp),h.cs (q,y) (by simp),h.cs (r,z) (by simp),h.cs (s,u) (by simp),h.cs (t,v) (by simp)⟩,fun r hr=>h.cs r (by simp [hr]),h.gl,h.bw⟩
end
theorem xe (a b c:Int) (w:World) (h:b≤a∧a≤c):Calls qf 51 #[.int .i64 a,.int .i64 b,.int .i64 c] w fun e w'=>e=.returned (.bool true)∧w=w':=by
 have h1:decide (b≤a)=true:=decide_eq_true h.1
 have h2:decide (a≤c)=true:=decide_eq_true h.2
 go_enter s51,ntmps51
 go_wp2
 go_ret
 exact ⟨by simp [h.2],rfl⟩
def zC (x l:Int×Int) (k:Nat):Option Nat:=((List.range 8).drop k).find? fun n=>borne x n l
theorem JH (x l:Int×Int):zC x l 8=none:=rfl
theorem Xn {k:Nat} (hk:k < 8):(List.range 8).drop k=k :: (List.range 8).drop (k+1):=by
 rcases (show k=0∨k=1∨k=2∨k=3∨k=4∨k=5∨k=6∨k=7 by omega) with rfl | rfl | rfl | rfl | rfl | rfl | rfl | rfl <;> rfl
theorem Xd {x l:Int×Int} {k:Nat} (hk:k < 8) (h:borne x k l=true):zC x l k=some k:=by
 unfold zC;rw [Xn hk,List.find?_cons,h]
theorem XN {x l:Int×Int} {k:Nat} (hk:k < 8) (h:borne x k l=false):zC x l k=zC x l (k+1):=by
 unfold zC;rw [Xn hk,List.find?_cons,h]
def qaM (x l:Int×Int):Value:=if yj x∧Lim l then (match zC x l 0 with | some n=>.tuple #[.int .i64 n,.bool true,.int .i64 0] | none=>.tuple #[.int .i64 0,.bool false,.int .i64 0]) else .tuple #[.int .i64 0,.bool false,.int .i64 1]
set_option maxHeartbeats 2000000 in
theorem qcp (x l:Int×Int) (w:World):Calls qf 37 #[fv x,fv l] w fun e w'=>e=.returned (qaM x l)∧Below w.heap.size w w':=by
 unfold qaM
 by_cases hx:yj x
 ·have htr:=fun W=>zQ x W hx
  by_cases hl:Lim l
  ·rw [if_pos ⟨hx,hl⟩]
   have hli:=fun W=>Qx l W hl
   have hbe:=fun T hT W=>bears_any T x l hx.1.1 hx.1.2 hx.2.1 hx.2.2 hT hl.2.1 hl.1.1 hl.2.2 hl.1.2 W
   obtain ⟨R,hR⟩:∃R,(match zC x l 0 with | some n=>Value.tuple #[.int .i64 (n:Int),.bool true,.int .i64 0] | none=>.tuple #[.int .i64 0,.bool false,.int .i64 0])=R:=⟨_,rfl⟩
   rw [hR]
   have HR:=Lib.hid hR
   clear hR
   simp only [fv] at *
   go_enter s37,ntmps37
   go_wp2_with (first | (go_at_call 71;(with_reducible refine (htr _).mono ?_);rintro e w1 ⟨rfl,hB1⟩;(first | (replace hB:=bcl (by with_reducible assumption) hB1) | (replace hB:=bcl (by go_grown) hB1) | (have hB:=hB1));(try clear hc hg hz);obtain ⟨hc,hg⟩:=qx hB;have hz:=hB.size;clear hB1;(try simp at hz);(try have hlt0:w.heap.size < w1.heap.size:=by omega)) | (go_at_call 91;(with_reducible refine (hli _).mono ?_);rintro e w1 ⟨rfl,hB1⟩;(first | (replace hB:=bcl (by with_reducible assumption) hB1) | (replace hB:=bcl (by go_grown) hB1) | (have hB:=hB1));(try clear hc hg hz);obtain ⟨hc,hg⟩:=qx hB;have hz:=hB.size;clear hB1;(try simp at hz);(try have hlt0:w.heap.size < w1.heap.size:=by omega)))
   obtain ⟨W,hW⟩:∃W,(w.alloc (Obj.cells #[Value.int .i64 x.1,Value.int .i64 x.2] 23)).alloc (Obj.cells #[Value.int .i64 l.1,Value.int .i64 l.2] 23)=W:=⟨_,rfl⟩
   have k0:W.cell? ⟨w.heap.size,0,none⟩=some (.int .i64 x.1):=by subst hW;go_cell
   have k1:W.cell? ⟨w.heap.size,1,none⟩=some (.int .i64 x.2):=by subst hW;go_cell
   have k2:W.cell? ⟨w.heap.size+1,0,none⟩=some (.int .i64 l.1):=by subst hW;go_cell
   have k3:W.cell? ⟨w.heap.size+1,1,none⟩=some (.int .i64 l.2):=by subst hW;go_cell
   have hBW:Below w.heap.size w W:=by subst hW;go_grown
   rw [hW] at hB
   clear hc hg hz hW
   go_loopw [16] (fun i wr=>∃k:Nat,i=.int .i64 k∧k≤8∧Below W.heap.size W wr∧Hid (zC x l k=zC x l 0)) (fun i _=>8 - (intOf i).toNat)
   case atStart=>exact ⟨0,rfl,by omega,hB,Lib.hid rfl⟩
   case round =>
    obtain ⟨k,rfl,hk,hBr,HE⟩:=hrel
    clear hB
    have k0:=qb _ hBr k0
    have k1:=qb _ hBr k1
    have k2:=qb _ hBr k2
    have k3:=qb _ hBr k3
    by_cases hlt:k < 8
    ·have hbe:=fun W=>hbe k (by omega) W
     by_cases hb:borne x k l=true
     ·simp only [hb] at hbe
      go_wp2_with (go_at_call 92;(with_reducible refine (hbe _).mono ?_);rintro e w1 ⟨rfl,hB1⟩;(first | (replace hB:=bcl (by with_reducible assumption) hB1) | (replace hB:=bcl (by go_grown) hB1) | (have hB:=hB1));(try clear hc hg hz);obtain ⟨hc,hg⟩:=qx hB;have hz:=hB.size;clear hB1;(try simp at hz);(try have hlt0:w.heap.size < w1.heap.size:=by omega))
      go_ret3
      refine ⟨?_,bcl hBW hB⟩
      rw [← HR.out,← HE.out,Xd hlt hb];rfl
     ·have hb:borne x k l=false:=by simpa using hb
      simp only [hb] at hbe
      go_wp2_with (go_at_call 92;(with_reducible refine (hbe _).mono ?_);rintro e w1 ⟨rfl,hB1⟩;(first | (replace hB:=bcl (by with_reducible assumption) hB1) | (replace hB:=bcl (by go_grown) hB1) | (have hB:=hB1));(try clear hc hg hz);obtain ⟨hc,hg⟩:=qx hB;have hz:=hB.size;clear hB1;(try simp at hz);(try have hlt0:w.heap.size < w1.heap.size:=by omega))
      go_roundw
      case rel=>exact ⟨k+1,rfl,by omega,hB,Lib.hid (by rw [← XN hlt hb];exact HE.out)⟩
      case measure=>simp [intOf];omega
    ·obtain rfl:k=8:=by omega
     go_wp2
     go_ret3
     refine ⟨?_,bcl hBW hBr⟩
     rw [← HR.out,← HE.out,JH];rfl
  ·rw [if_neg (fun h=>hl h.2)]
   have hli:=fun W=>Ze l W hl
   simp only [fv] at *
   go_enter s37,ntmps37
   go_wp2_with (first | (go_at_call 71;(with_reducible refine (htr _).mono ?_);rintro e w1 ⟨rfl,hB1⟩;(first | (replace hB:=bcl (by with_reducible assumption) hB1) | (replace hB:=bcl (by go_grown) hB1) | (have hB:=hB1));(try clear hc hg hz);obtain ⟨hc,hg⟩:=qx hB;have hz:=hB.size;clear hB1;(try simp at hz);(try have hlt0:w.heap.size < w1.heap.size:=by omega)) | (go_at_call 91;(with_reducible refine (hli _).mono ?_);rintro e w1 ⟨rfl,hB1⟩;(first | (replace hB:=bcl (by with_reducible assumption) hB1) | (replace hB:=bcl (by go_grown) hB1) | (have hB:=hB1));(try clear hc hg hz);obtain ⟨hc,hg⟩:=qx hB;have hz:=hB.size;clear hB1;(try simp at hz);(try have hlt0:w.heap.size < w1.heap.size:=by omega)))
   go_ret3
   exact ⟨rfl,bcl (w:=w) (by go_grown) hB⟩
 ·rw [if_neg (fun h=>hx h.1)]
  have htr:=fun W=>yJ x W hx
  simp only [fv] at *
  go_enter s37,ntmps37
  go_wp2_with (first | (go_at_call 71;(with_reducible refine (htr _).mono ?_);rintro e w1 ⟨rfl,hB1⟩;(first | (replace hB:=bcl (by with_reducible assumption) hB1) | (replace hB:=bcl (by go_grown) hB1) | (have hB:=hB1));(try clear hc hg hz);obtain ⟨hc,hg⟩:=qx hB;have hz:=hB.size;clear hB1;(try simp at hz);(try have hlt0:w.heap.size < w1.heap.size:=by omega)))
  go_ret3
  exact ⟨rfl,bcl (w:=w) (by go_grown) hB⟩
def zO (p:Int) (T:Nat) (l:Int×Int):Nat→Int
 | 0=>-1
 | k+1=>if borne ((k:Int),p) T l then k else zO p T l k
def qdJ (T p:Int) (l:Int×Int):Value:=if (0≤T∧T≤7)∧(1≤p∧p≤4)∧Lim l then tv (zO p T.toNat l 13,p) 0 else tv (0,0) 1
set_option maxHeartbeats 2000000 in
theorem qdv (T:Nat) (p:Int) (l:Int×Int) (hT:T≤7) (hp:1≤p∧p≤4) (hl:Lim l) (w:World) :
 Calls qf 38 #[.int .i64 T,.int .i64 p,fv l] w fun e w'=>e=.returned (tv (zO p T l 13,p) 0)∧Below w.heap.size w w':=by
 have hli:=fun W=>Qx l W hl
 have hbe:=fun (k:Nat) (hk:k≤12) W=>bears_any T ((k:Int),p) l (Int.natCast_nonneg k) (by show (k:Int)≤12;omega) hp.1 hp.2 hT hl.2.1 hl.1.1 hl.2.2 hl.1.2 W
 simp only [fv,tv] at *
 go_enter s38,ntmps38
 go_wp2_with (first | (go_at_call 91;(with_reducible refine (hli _).mono ?_);rintro e w1 ⟨rfl,hB1⟩;(first | (replace hB:=bcl (by with_reducible assumption) hB1) | (replace hB:=bcl (by go_grown) hB1) | (have hB:=hB1));(try clear hc hg hz);obtain ⟨hc,hg⟩:=qx hB;have hz:=hB.size;clear hB1;(try simp at hz);(try have hlt0:w.heap.size < w1.heap.size:=by omega)) | (go_at_call 85;(with_reducible refine (zM _ _ (by omega)).mono ?_);rintro e w1 ⟨rfl,rfl⟩) | (go_at_call 65;(with_reducible refine (qC _ _ _ _ hp).mono ?_);rintro e w1 ⟨rfl,rfl⟩))
 have L0:w1.cell? ⟨w.heap.size,0,none⟩=some (.int .i64 l.1):=by rw [hc _ _ (by simp <;> omega)];go_cell
 have L1:w1.cell? ⟨w.heap.size,1,none⟩=some (.int .i64 l.2):=by rw [hc _ _ (by simp <;> omega)];go_cell
 have R0:w1.cell? ⟨w.heap.size+1,0,none⟩=some (.int .i64 0):=by rw [hc _ _ (by simp <;> omega)];go_cell
 have R1:w1.cell? ⟨w.heap.size+1,1,none⟩=some (.int .i64 0):=by rw [hc _ _ (by simp <;> omega)];go_cell
 have F0:w1.frozen? ⟨w.heap.size+1,0,none⟩=false:=by rw [hg _ _ (by simp <;> omega)];go_cell
 have F1:w1.frozen? ⟨w.heap.size+1,1,none⟩=false:=by rw [hg _ _ (by simp <;> omega)];go_cell
 have hBw:Below w.heap.size w w1:=bcl (w:=w) (by go_grown) hB
 clear hc hg hB
 go_loopw [27] (fun i wr=>∃k:Nat,i=.int .i64 k∧k≤13∧Below w.heap.size w wr∧w1.heap.size+1≤wr.heap.size∧wr.cell? ⟨w.heap.size,0,none⟩=some (.int .i64 l.1)∧wr.cell? ⟨w.heap.size,1,none⟩=some (.int .i64 l.2) ∧
  wr.cell? ⟨w.heap.size+1,0,none⟩=some (.int .i64 0)∧wr.cell? ⟨w.heap.size+1,1,none⟩=some (.int .i64 0)∧wr.frozen? ⟨w.heap.size+1,0,none⟩=false∧wr.frozen? ⟨w.heap.size+1,1,none⟩=false ∧
  wr.cell? ⟨w1.heap.size,0,none⟩=some (.int .i64 (zO p T l k))∧wr.cell? ⟨w1.heap.size,1,none⟩=some (.int .i64 p)∧wr.frozen? ⟨w1.heap.size,0,none⟩=false∧wr.frozen? ⟨w1.heap.size,1,none⟩=false) (fun i _=>13 - (intOf i).toNat)
 case atStart =>
  have hm:zO p T l 0=-1:=rfl
  exact ⟨0,rfl,by omega,by go_grown,by simp,qi L0,qi L1,qi R0,qi R1,qo R0 F0,qo R1 F1,by rw [hm];go_cell,by go_cell,by go_cell,by go_cell⟩
 case round =>
  clear L0 L1 R0 R1 F0 F1 hBw
  obtain ⟨k,rfl,hk,hBw,hsz,L0,L1,R0,R1,F0,F1,M0,M1,G0,G1⟩:=hrel
  have s1:w.heap.size < wr.heap.size:=by omega
  have s2:w.heap.size+1 < wr.heap.size:=by omega
  have s3:w1.heap.size < wr.heap.size:=by omega
  by_cases hlt:k < 13
  ·have hbe:=fun W=>hbe k (by omega) W
   by_cases hb:borne ((k:Int),p) T l=true
   ·have hnx:zO p T l (k+1)=k:=by simp [zO,hb]
    simp only [hb] at hbe
    have HN:=Lib.hid hnx
    clear hnx
    generalize zO p T l k=m at *
    go_wp2_with (go_at_call 92;refine (hbe _).mono ?_;rintro e w2 ⟨rfl,hB2⟩;have A0:=qb ⟨wr.heap.size,0,none⟩ hB2 (v:=.int .i64 k) (by go_cell);have A1:=qb ⟨wr.heap.size,1,none⟩ hB2 (v:=.int .i64 p) (by go_cell);have N0:=qb _ hB2 (qi M0);have N1:=qb _ hB2 (qi M1);have H0:=qg _ hB2 (qi M0) (qo M0 G0);have H1:=qg _ hB2 (qi M1) (qo M1 G1);have P0:=qb _ hB2 (qi L0);have P1:=qb _ hB2 (qi L1);have Q0:=qb _ hB2 (qi R0);have Q1:=qb _ hB2 (qi R1);have I0:=qg _ hB2 (qi R0) (qo R0 F0);have I1:=qg _ hB2 (qi R1) (qo R1 F1);have hz2:=hB2.size;have hB3:=bcl (w:=w) (by go_grown) hB2;clear hB2 M0 M1 G0 G1 L0 L1 R0 R1 F0 F1;simp at hz2)
    go_roundw
    case rel=>exact ⟨k+1,rfl,by omega,(hB3.setCell (by simp;omega) _).setCell (by simp;omega) _,by simp;omega,by go_cell,by go_cell,by go_cell,by go_cell,by go_cell,by go_cell,by rw [HN.out];go_cell,by go_cell,by go_cell,by go_cell⟩
    case measure=>simp [intOf];omega
   ·have hb:borne ((k:Int),p) T l=false:=by simpa using hb
    have hnx:zO p T l (k+1)=zO p T l k:=by simp [zO,hb]
    simp only [hb] at hbe
    have HN:=Lib.hid hnx
    clear hnx
    generalize zO p T l k=m at *
    go_wp2_with (go_at_call 92;refine (hbe _).mono ?_;rintro e w2 ⟨rfl,hB2⟩;have A0:=qb ⟨wr.heap.size,0,none⟩ hB2 (v:=.int .i64 k) (by go_cell);have A1:=qb ⟨wr.heap.size,1,none⟩ hB2 (v:=.int .i64 p) (by go_cell);have N0:=qb _ hB2 (qi M0);have N1:=qb _ hB2 (qi M1);have H0:=qg _ hB2 (qi M0) (qo M0 G0);have H1:=qg _ hB2 (qi M1) (qo M1 G1);have P0:=qb _ hB2 (qi L0);have P1:=qb _ hB2 (qi L1);have Q0:=qb _ hB2 (qi R0);have Q1:=qb _ hB2 (qi R1);have I0:=qg _ hB2 (qi R0) (qo R0 F0);have I1:=qg _ hB2 (qi R1) (qo R1 F1);have hz2:=hB2.size;have hB3:=bcl (w:=w) (by go_grown) hB2;clear hB2 M0 M1 G0 G1 L0 L1 R0 R1 F0 F1;simp at hz2)
    go_roundw
    case rel=>exact ⟨k+1,rfl,by omega,hB3,by omega,P0,P1,Q0,Q1,I0,I1,by rw [HN.out];exact N0,N1,H0,H1⟩
    case measure=>simp [intOf];omega
  ·obtain rfl:k=13:=by omega
   go_wp2
   have hp:=ZP (.int .i64 (zO p T l 13)) (.int .i64 p) R0 R1
   refine bodyPost_ret (qZ results38 rfl rfl (xu zl qW hp.1 hp.2)) rfl ⟨rfl,?_⟩
   exact (hBw.setCell (p:=⟨w.heap.size+1,0,none⟩) (Nat.le_succ _) _).setCell (p:=⟨w.heap.size+1,1,none⟩) (Nat.le_succ _) _
set_option maxHeartbeats 1000000 in
theorem qdu (T p:Int) (l:Int×Int) (w:World):Calls qf 38 #[.int .i64 T,.int .i64 p,fv l] w fun e w'=>e=.returned (qdJ T p l)∧Below w.heap.size w w':=by
 unfold qdJ
 by_cases hT:0≤T∧T≤7
 ·obtain ⟨n,rfl⟩:=Int.eq_ofNat_of_zero_le hT.1
  by_cases hp:1≤p∧p≤4
  ·by_cases hl:Lim l
   ·rw [if_pos ⟨hT,hp,hl⟩]
    exact qdv n p l (by omega) hp hl w
   ·rw [if_neg (fun h=>hl h.2.2)]
    have hli:=fun W=>Ze l W hl
    simp only [fv,tv] at *
    go_enter s38,ntmps38
    go_wp2_with (first | (go_at_call 91;(with_reducible refine (hli _).mono ?_);rintro e w1 ⟨rfl,hB1⟩;(first | (replace hB:=bcl (by with_reducible assumption) hB1) | (replace hB:=bcl (by go_grown) hB1) | (have hB:=hB1));(try clear hc hg hz);obtain ⟨hc,hg⟩:=qx hB;have hz:=hB.size;clear hB1;(try simp at hz);(try have hlt0:w.heap.size < w1.heap.size:=by omega)) | (go_at_call 85;(with_reducible refine (zM _ _ (by omega)).mono ?_);rintro e w1 ⟨rfl,rfl⟩) | (go_at_call 65;(with_reducible refine (qC _ _ _ _ hp).mono ?_);rintro e w1 ⟨rfl,rfl⟩))
    have c0:w1.cell? ⟨w.heap.size+1,0,none⟩=some (.int .i64 0):=by rw [hc _ _ (by simp <;> omega)];go_cell
    have c1:w1.cell? ⟨w.heap.size+1,1,none⟩=some (.int .i64 0):=by rw [hc _ _ (by simp <;> omega)];go_cell
    have hp:=ZP (.int .i64 0) (.int .i64 0) c0 c1
    refine bodyPost_ret (qZ results38 rfl rfl (xu zl qW hp.1 hp.2)) rfl ⟨rfl,?_⟩
    exact ((bcl (w:=w) (by go_grown) hB).setCell (by simp) _).setCell (by simp) _
  ·rw [if_neg (fun h=>hp h.2.1)]
   simp only [fv,tv] at *
   go_enter s38,ntmps38
   go_wp2_with (first | (go_at_call 85;(with_reducible refine (zM _ _ (by omega)).mono ?_);rintro e w1 ⟨rfl,rfl⟩) | (go_at_call 65;(with_reducible refine (qU _ _ _ _ hp).mono ?_);rintro e w1 ⟨rfl,rfl⟩))
   go_returns
   exact ⟨rfl,by go_grown⟩
 ·rw [if_neg (fun h=>hT h.1)]
  simp only [fv,tv] at *
  go_enter s38,ntmps38
  go_wp2_with (first | (go_at_call 85;(with_reducible refine (jg _ _ hT).mono ?_);rintro e w1 ⟨rfl,rfl⟩))
  go_returns
  exact ⟨rfl,by go_grown⟩
theorem Jy {q l:Int×Int} (h2:0 < l.2):above q (low l.1 l.2)=above q l:=by
 have hg:=XU (a:=l.1) h2
 have d1:(Int.gcd l.1 l.2:Int) * (l.1 / (Int.gcd l.1 l.2:Int))=l.1:=Int.mul_ediv_cancel' (Int.gcd_dvd_left ..)
 have d2:(Int.gcd l.1 l.2:Int) * (l.2 / (Int.gcd l.1 l.2:Int))=l.2:=Int.mul_ediv_cancel' (Int.gcd_dvd_right ..)
 unfold above low lowT lowB
 simp only
 generalize (Int.gcd l.1 l.2:Int)=g at *
 generalize l.1 / g=a at *
 generalize l.2 / g=b at *
 refine decide_eq_decide.2 ?_
 rw [← d1,← d2,Int.mul_assoc,Int.mul_left_comm q.1]
 exact ⟨fun h=>Int.mul_lt_mul_of_pos_left h hg,fun h=>Int.lt_of_mul_lt_mul_left h (Int.le_of_lt hg)⟩
theorem borne_eq {t b n:Nat} {l:Int×Int} (h2:0 < l.2):borne ((t:Int),(b:Int)) n l = !above (Qz t b n) l:=by
 unfold borne Qz
 rw [Jy h2]
theorem qcS {t b n:Nat} (ht:t≤12) (hb:1≤b∧b≤4) (hn:n≤7):fairN (Qz t b n)=true∧okS (Qz t b n) 8589934592:=by
 have h:=sum_all
 rw [List.all_eq_true] at h
 have h:=h t (List.mem_range.2 (by omega))
 rw [List.all_eq_true] at h
 have h:=h (b - 1) (List.mem_range.2 (by omega))
 rw [List.all_eq_true] at h
 have h:=h n (List.mem_range.2 (by omega))
 rw [show b - 1+1=b by omega] at h
 unfold sumB at h
 simp only [Bool.and_eq_true,decide_eq_true_eq,Bool.not_eq_true'] at h
 exact ⟨h.1.1.1.1.1.1.1.2,h.1.1.1.1.2⟩
theorem Less_lim {l x:Int×Int} {r:Bool} (hr:above x l=r) (hk:okS x 8589934592) (hl:Lim l) (W:World):Calls qf 49 #[fv l,fv x] W fun e w'=>e=.returned (.bool r)∧Below W.heap.size W w':=by
 have h:=hk
 unfold okS at h
 unfold Lim at hl
 exact hr▸qbF l x W hl.2.1 (by omega) h.1 h.2.2.1 (by omega) (by omega) (by omega) (by omega)
theorem YZ (a b c:Int) (w:World) (h:¬ (b≤a∧a≤c)):Calls qf 51 #[.int .i64 a,.int .i64 b,.int .i64 c] w fun e w'=>e=.returned (.bool false)∧w=w':=by
 by_cases h1:b≤a
 ·have h2:¬ a≤c:=fun h2=>h ⟨h1,h2⟩
  have k1:decide (b≤a)=true:=decide_eq_true h1
  have k2:decide (a≤c)=false:=decide_eq_false h2
  go_enter s51,ntmps51
  go_wp2
  go_ret
  exact ⟨by simp_all,rfl⟩
 ·have k1:decide (b≤a)=false:=decide_eq_false h1
  go_enter s51,ntmps51
  go_wp2
  go_ret
  exact ⟨by simp_all,rfl⟩
theorem qah (x:Int×Int) (w:World) (h:yj x):Calls qf 55 #[fv x] w fun e w'=>e=.returned (.bool true)∧Below w.heap.size w w':=by
 obtain ⟨h1,h2⟩:=h
 simp only [fv]
 go_enter s55,ntmps55
 go_wp2_with (go_at_call 51;(first | (with_reducible refine (xe _ _ _ _ h1).mono ?_) | (with_reducible refine (xe _ _ _ _ h2).mono ?_));rintro e w' ⟨rfl,rfl⟩)
 go_ret
 exact ⟨rfl,by go_grown⟩
theorem qbk (x:Int×Int) (w:World) (h:¬ yj x):Calls qf 55 #[fv x] w fun e w'=>e=.returned (.bool false)∧Below w.heap.size w w':=by
 simp only [fv]
 by_cases h1:0≤x.1∧x.1≤12
 ·have h2:¬ (1≤x.2∧x.2≤4):=fun h2=>h ⟨h1,h2⟩
  go_enter s55,ntmps55
  go_wp2_with (go_at_call 51;(first | (with_reducible refine (xe _ _ _ _ h1).mono ?_) | (with_reducible refine (YZ _ _ _ _ h2).mono ?_));rintro e w' ⟨rfl,rfl⟩)
  go_ret
  exact ⟨rfl,by go_grown⟩
 ·go_enter s55,ntmps55
  go_wp2_with (go_at_call 51;(with_reducible refine (YZ _ _ _ _ h1).mono ?_);rintro e w' ⟨rfl,rfl⟩)
  go_ret
  exact ⟨rfl,by go_grown⟩
theorem Zo (x:Int×Int) (w:World) (h:Lim x):Calls qf 50 #[fv x] w fun e w'=>e=.returned (.bool true)∧Below w.heap.size w w':=by
 obtain ⟨h1,h2⟩:=h
 simp only [fv]
 go_enter s50,ntmps50
 go_wp2_with (go_at_call 51;(first | (with_reducible refine (xe _ _ _ _ h1).mono ?_) | (with_reducible refine (xe _ _ _ _ h2).mono ?_));rintro e w' ⟨rfl,rfl⟩)
 go_ret
 exact ⟨rfl,by go_grown⟩
theorem qfn (x:Int×Int) (w:World) (h:¬ Lim x):Calls qf 50 #[fv x] w fun e w'=>e=.returned (.bool false)∧Below w.heap.size w w':=by
 simp only [fv]
 by_cases h1:1≤x.2∧x.2≤100
 ·have h2:¬ (0≤x.1∧x.1≤x.2):=fun h2=>h ⟨h1,h2⟩
  go_enter s50,ntmps50
  go_wp2_with (go_at_call 51;(first | (with_reducible refine (xe _ _ _ _ h1).mono ?_) | (with_reducible refine (YZ _ _ _ _ h2).mono ?_));rintro e w' ⟨rfl,rfl⟩)
  go_ret
  exact ⟨rfl,by go_grown⟩
 ·go_enter s50,ntmps50
  go_wp2_with (go_at_call 51;(with_reducible refine (YZ _ _ _ _ h1).mono ?_);rintro e w' ⟨rfl,rfl⟩)
  go_ret
  exact ⟨rfl,by go_grown⟩
theorem YI (a:Int) (w:World) (h:0≤a∧a≤7):Calls qf 54 #[.int .i64 a] w fun e w'=>e=.returned (.bool true)∧w=w':=by
 go_enter s54,ntmps54
 go_wp2_with (go_at_call 51;refine (xe _ _ _ _ h).mono ?_;rintro e w' ⟨rfl,rfl⟩)
 go_ret
 exact ⟨rfl,rfl⟩
theorem qdd (a:Int) (w:World) (h:¬ (0≤a∧a≤7)):Calls qf 54 #[.int .i64 a] w fun e w'=>e=.returned (.bool false)∧w=w':=by
 go_enter s54,ntmps54
 go_wp2_with (go_at_call 51;refine (YZ _ _ _ _ h).mono ?_;rintro e w' ⟨rfl,rfl⟩)
 go_ret
 exact ⟨rfl,rfl⟩
theorem qag (a m:Nat) (hm:m≤20) (hb:∀i,i≤m→a ^ i < 4611686018427387904) (w:World):Calls qf 132 #[.int .i64 a,.int .i64 m] w fun e w'=>e=.returned (.int .i64 ((a ^ m:Nat):Int))∧w=w':=by
 have HB:=Lib.hid hb
 clear hb
 go_enter s132,ntmps132
 go_wp2
 go_loop [5,6] (fun o i=>∃(k:Nat) (p:Int),i=.int .i64 k∧k≤m∧o=.int .i64 p∧Hid (p=((a ^ k:Nat):Int))) (fun _ i=>m - (intOf i).toNat)
 case atStart=>exact ⟨0,1,rfl,by omega,rfl,Lib.hid (by simp)⟩
 case round =>
  obtain ⟨k,p,rfl,hk,rfl,HP⟩:=hrel
  by_cases hlt:k < m
  ·have h1:=HB.out (k+1) (by omega)
   have e:p * a=((a ^ (k+1):Nat):Int):=by rw [HP.out,Nat.pow_succ,Int.natCast_mul]
   have h0:0≤p * (a:Int):=by rw [e];omega
   have h2:p * (a:Int) < 4611686018427387904:=by rw [e];omega
   have HE:=Lib.hid e
   have e1:IntKind.i64.wrap (p * (a:Int))=p * a:=IntWalk.i64_in _ (by omega)
   clear e h1
   go_wp2
   go_round
   case rel=>exact ⟨k+1,_,by go_num,by omega,rfl,HE⟩
   case measure=>simp [intOf];omega
  ·obtain rfl:k=m:=by omega
   go_wp2
   go_ret
   exact ⟨by rw [HP.out,Int.natCast_pow];rfl,rfl⟩
theorem qfB (c:UInt8) (w:World):Calls qf 94 #[.int .u8 c.toNat] w fun e w'=>e=.returned (.bool (btw c.toNat 97 122))∧w=w':=by
 by_cases h1:(97:Int)≤(c.toNat:Int)
 ·go_enter s94,ntmps94
  go_wp2
  go_ret
  exact ⟨by simp [btw,h1],rfl⟩
 ·go_enter s94,ntmps94
  go_wp2
  go_ret
  exact ⟨by simp [btw];omega,rfl⟩
theorem qdT (c:UInt8) (w:World):Calls qf 95 #[.int .u8 c.toNat] w fun e w'=>e=.returned (.bool (btw c.toNat 48 57))∧w=w':=by
 by_cases h1:(48:Int)≤(c.toNat:Int)
 ·go_enter s95,ntmps95
  go_wp2
  go_ret
  exact ⟨by simp [btw,h1],rfl⟩
 ·go_enter s95,ntmps95
  go_wp2
  go_ret
  exact ⟨by simp [btw];omega,rfl⟩
def qdr (s:ByteArray) (j:Nat):Bool:=btw ((s.data.toList.getD j 0).toNat:Int) 97 122 || (j != 0 && btw ((s.data.toList.getD j 0).toNat:Int) 48 57)
theorem name_bad {s:ByteArray} {k:Nat} (hk:k < s.size) (h:qdr s k=false):jy s=false:=by
 unfold qdr at h
 simp only [Bool.or_eq_false_iff,Bool.and_eq_false_iff] at h
 obtain ⟨h1,h2⟩:=h
 have hk':k < s.data.toList.length:=by simpa using hk
 have hg:s.data.toList.getD k 0=s.data.toList[k]:=by rw [List.getD_eq_getElem?_getD,List.getElem?_eq_getElem hk'];rfl
 unfold jy
 by_cases h0:k=0
 ·subst h0
  have:s.data.toList.headD 0=s.data.toList.getD 0 0:=by cases s.data.toList <;> rfl
  rw [this,h1]
  simp
 ·have hd:btw ((s.data.toList.getD k 0).toNat:Int) 48 57=false:=by
   rcases h2 with h2 | h2
   ·simp at h2;exact absurd h2 h0
   ·exact h2
  have:s.data.toList.any xI=true:=List.any_eq_true.2 ⟨s.data.toList[k],List.getElem_mem _,by unfold xI;rw [← hg,h1,hd];rfl⟩
  rw [this]
  simp
theorem qeM {s:ByteArray} (h:∀j,j < s.size→qdr s j=true):jy s=(1≤s.size && s.size≤9:Bool):=by
 unfold jy
 have hany:s.data.toList.any xI=false:=by
  rw [List.any_eq_false]
  intro x hx
  obtain ⟨j,hj,rfl⟩:=List.getElem_of_mem hx
  have:=h j (by simpa using hj)
  have hg:s.data.toList.getD j 0=s.data.toList[j]:=by rw [List.getD_eq_getElem?_getD,List.getElem?_eq_getElem hj];rfl
  unfold qdr at this
  rw [hg] at this
  unfold xI
  simp only [Bool.or_eq_true,Bool.and_eq_true] at this
  rcases this with a | ⟨_,a⟩ <;> rw [a] <;> simp
 by_cases h0:0 < s.size
 ·have:=h 0 h0
  unfold qdr at this
  have e:s.data.toList.headD 0=s.data.toList.getD 0 0:=by cases s.data.toList <;> rfl
  simp only [bne_self_eq_false,Bool.false_and,Bool.or_false] at this
  rw [e,this,hany]
  simp
 ·have e:s.size=0:=by omega
  rw [e]
  rfl
set_option maxHeartbeats 2000000 in
set_option maxRecDepth 100000 in
theorem qbj (s:ByteArray) (hs:s.size≤100) (w:World):Calls qf 52 #[.string s] w fun e w'=>e=.returned (.bool (jy s))∧w=w':=by
 obtain ⟨R,hR⟩:∃R,jy s=R:=⟨_,rfl⟩
 rw [hR]
 have HG:Hid ((∀j,j < s.size→qdr s j=true)→R=(1≤s.size && s.size≤9:Bool)):=Lib.hid fun h=>by rw [← hR];exact qeM h
 have HB:Hid (∀k,k < s.size→qdr s k=false→R=false):=Lib.hid fun k hk h=>by rw [← hR];exact name_bad hk h
 clear hR
 go_enter s52,ntmps52
 go_wp2
 go_loop [3] (fun i=>∃k:Nat,i=.int .i64 k∧k≤s.size∧Hid (∀j,j < k→qdr s j=true)) (fun i=>s.size - (intOf i).toNat)
 case atStart=>exact ⟨0,rfl,Nat.zero_le _,Lib.hid fun j hj=>absurd hj (Nat.not_lt_zero _)⟩
 case round =>
  obtain ⟨k,rfl,hk,HK⟩:=hrel
  by_cases hlt:k < s.size
  ·have hk':k < s.data.toList.length:=by simpa using hlt
   have hg:s.data.toList.getD k 0=s[k]:=by rw [List.getD_eq_getElem?_getD,List.getElem?_eq_getElem hk'];rfl
   have hok:qdr s k=(btw (s[k].toNat:Int) 97 122 || (k != 0 && btw (s[k].toNat:Int) 48 57)):=by unfold qdr;rw [hg]
   have hsm:=fun W=>qfB s[k] W
   have hdi:=fun W=>qdT s[k] W
   have hnext:qdr s k=true→Hid (∀j,j < k+1→qdr s j=true):=fun h=>Lib.hid fun j hj=>by
    rcases Nat.lt_succ_iff_lt_or_eq.1 hj with h1 | rfl
    ·exact HK.out j h1
    ·exact h
   have hlti:(k:Int) < (s.size:Int):=by omega
   cases h1:btw (s[k].toNat:Int) 97 122 with
   | true =>
     have HN:=hnext (by rw [hok,h1];rfl)
     simp only [h1] at hsm
     clear hok hnext hdi h1
     go_wp2_with (go_at_call 94;refine (hsm _).mono ?_;rintro e w' ⟨rfl,rfl⟩)
     go_round
     case rel=>exact ⟨k+1,by go_num,by omega,HN⟩
     case measure=>simp [intOf];omega
   | false =>
     simp only [h1] at hsm
     by_cases h0:k=0
     ·subst h0
      have hb:=HB.out 0 hlt (by rw [hok,h1];rfl)
      subst hb
      clear hok hnext hdi h1
      go_wp2_with (go_at_call 94;refine (hsm _).mono ?_;rintro e w' ⟨rfl,rfl⟩)
      go_ret
      exact ⟨rfl,rfl⟩
     ·have hkb:((k:Int) == 0)=false:=by rw [beq_eq_false_iff_ne];omega
      cases h2:btw (s[k].toNat:Int) 48 57 with
      | true =>
        have HN:=hnext (by rw [hok,h1,h2];simp [h0])
        simp only [h2] at hdi
        clear hok hnext h1 h2
        go_wp2_with (first | (go_at_call 94;refine (hsm _).mono ?_;rintro e w' ⟨rfl,rfl⟩) | (go_at_call 95;refine (hdi _).mono ?_;rintro e w' ⟨rfl,rfl⟩))
        go_round
        case rel=>exact ⟨k+1,by go_num,by omega,HN⟩
        case measure=>simp [intOf];omega
      | false =>
        have hb:=HB.out k hlt (by rw [hok,h1,h2];simp)
        subst hb
        simp only [h2] at hdi
        clear hok hnext h1 h2
        go_wp2_with (first | (go_at_call 94;refine (hsm _).mono ?_;rintro e w' ⟨rfl,rfl⟩) | (go_at_call 95;refine (hdi _).mono ?_;rintro e w' ⟨rfl,rfl⟩))
        go_ret
        exact ⟨rfl,rfl⟩
  ·obtain rfl:k=s.size:=by omega
   have hR:=HG.out HK.out
   by_cases hn:1≤(s.size:Int)∧(s.size:Int)≤9
   ·have hb:R=true:=by rw [hR];simp;omega
    subst hb
    clear hR
    go_wp2_with (go_at_call 51;refine (xe _ _ _ _ hn).mono ?_;rintro e w' ⟨rfl,rfl⟩)
    go_ret
    exact ⟨rfl,rfl⟩
   ·have hb:R=false:=by rw [hR];simp;omega
    subst hb
    clear hR
    go_wp2_with (go_at_call 51;refine (YZ _ _ _ _ hn).mono ?_;rintro e w' ⟨rfl,rfl⟩)
    go_ret
    exact ⟨rfl,rfl⟩
def StrAt (w:World) (v:Value) (l:List ByteArray):Prop :=
 (l=[]∧v=.slice none 0 0)∨∃b c,v=.slice (some ⟨b,0,none⟩) l.length c∧∀(k:Nat) (s:ByteArray),l[k]? = some s→w.cell? ⟨b,k,none⟩=some (.string s)
def hasS (l:List ByteArray) (s:ByteArray):Bool:=l.any fun x=>x.toList == s.toList
set_option maxHeartbeats 2000000 in
set_option maxRecDepth 100000 in
theorem qaz (l:List ByteArray) (s:ByteArray) (v:Value) (hl:l.length≤1000) (w:World) (h:StrAt w v l) :
 Calls qf 53 #[v,.string s] w fun e w'=>(∃r:Int,e=.returned (.int .i64 r)∧decide (0≤r)=hasS l s)∧w=w':=by
 rcases h with ⟨rfl,rfl⟩ | ⟨b,c,rfl,hc⟩
 ·go_enter s53,ntmps53
  go_wp2
  refine wp_loop_rounds 1 ?_
  rw [rounds_succ]
  go_wp2
  go_ret
  exact ⟨⟨_,rfl,rfl⟩,rfl⟩
 ·have HC:=Lib.hid hc
  clear hc
  go_enter s53,ntmps53
  go_wp2
  go_loop [5] (fun i=>∃k:Nat,i=.int .i64 k∧k≤l.length∧Hid (∀j x,j < k→l[j]? = some x→(x.toList == s.toList)=false)) (fun i=>l.length - (intOf i).toNat)
  case atStart=>exact ⟨0,rfl,Nat.zero_le _,Lib.hid fun j x hj=>absurd hj (Nat.not_lt_zero _)⟩
  case round =>
   obtain ⟨k,rfl,hk,HK⟩:=hrel
   by_cases hlt:k < l.length
   ·obtain ⟨x,hx⟩:∃x,l[k]? = some x:=⟨l[k],by simp [hlt]⟩
    have c0:=HC.out k x hx
    have hm:x∈l:=List.mem_of_getElem? hx
    cases hq:(x.toList == s.toList) with
    | true =>
      have hh:hasS l s=true:=List.any_eq_true.2 ⟨x,hm,hq⟩
      clear hx hm
      go_wp2
      go_ret
      exact ⟨⟨_,rfl,by omega⟩,rfl⟩
    | false =>
      have HN:Hid (∀j y,j < k+1→l[j]? = some y→(y.toList == s.toList)=false):=Lib.hid fun j y hj hy=>by
       rcases Nat.lt_succ_iff_lt_or_eq.1 hj with h1 | rfl
       ·exact HK.out j y h1 hy
       ·rw [hx] at hy
        cases hy
        exact hq
      clear hx hm
      go_wp2
      go_round
      case rel=>exact ⟨k+1,by go_num,by omega,HN⟩
      case measure=>simp [intOf];omega
   ·obtain rfl:k=l.length:=by omega
    have hh:hasS l s=false:=by
     unfold hasS
     rw [List.any_eq_false]
     intro x hx
     obtain ⟨j,hj,rfl⟩:=List.getElem_of_mem hx
     rw [HK.out j l[j] hj (by simp [hj])]
     simp
    go_wp2
    go_ret
    exact ⟨⟨_,rfl,by omega⟩,rfl⟩
end Go.Proofs.Tryz
namespace Go.Proofs.Tryz
open Go Go.Load Go.RowKit Go.Maps
theorem info_str:(Tryz.prog.info? 9).map (fun i=>(i.zero,i.size,i.bytes))=some (some (.string ⟨#[]⟩),1,16):=by kernel_rfl
theorem qdl {base:Nat} {e:TypeId} {W:World} {v:Value} {l:List ByteArray} (h:W.ownsRow base e 1 v l.length (l.map .string)):StrAt W v l:=by
 have hh:=h
 obtain ⟨_,⟨h1,h2⟩ | ⟨g,cap,cur,rfl,_⟩⟩:=h
 ·exact .inl ⟨List.length_eq_zero_iff.1 h2,h1⟩
 ·refine .inr ⟨g,cap,rfl,fun k s hk=>?_⟩
  have:=hh.cells (g:=g) rfl k (.string s) (by simp [hk])
  have e1:(⟨g,0,none⟩:Addr).add k=⟨g,k,none⟩:=by simp [Addr.add];intro h;exact h.symm
  rw [e1] at this
  exact this
def qab (gs:List Grp):List Value:=gs.map fun g=>.string g.name
theorem qcV {gs:List Grp} {k:Nat} {g:Grp} (hg:gs[k]? = some g):qab (gs.take k) ++ [.string g.name]=qab (gs.take (k+1)):=by
 unfold qab
 rw [List.take_add_one,hg]
 simp
theorem qeN {base:Nat} {e:TypeId} {W:World} {v:Value} {gs:List Grp} {k:Nat} (hk:k≤gs.length) (h:W.ownsRow base e 1 v k (qab (gs.take k))):StrAt W v ((gs.take k).map (·.name)):=by
 refine qdl (base:=base) (e:=e) ?_
 rw [List.length_map,List.length_take,Nat.min_eq_left hk,List.map_map]
 exact h
theorem qcJ (gs:List Grp) (s:ByteArray):hasS (gs.map (·.name)) s=gs.any fun o=>o.name.toList == s.toList:=by
 unfold hasS
 rw [List.any_map]
 rfl
theorem traf_all {l:List (Int×Int)}:(l.any fun x => !decide (yj x))=false↔∀(j:Nat) (x:Int×Int),l[j]? = some x→yj x:=by
 rw [List.any_eq_false]
 constructor
 ·intro h j x hx
  simpa using h x (List.mem_of_getElem? hx)
 ·intro h x hx
  obtain ⟨j,hj,rfl⟩:=List.getElem_of_mem hx
  have:=h j l[j] (by simp [hj])
  simpa using this
theorem qfN {l:List (Int×Int)} {j:Nat} {x:Int×Int} (hx:l[j]? = some x) (h:¬ yj x):(l.any fun x => !decide (yj x))=true:=List.any_eq_true.2 ⟨x,List.mem_of_getElem? hx,by simpa using h⟩
set_option maxHeartbeats 4000000 in
set_option maxRecDepth 100000 in
theorem qdb (B:Bk) (w:World) (hn:¬ Jw B):Calls qf 11 #[bv B] w fun e w'=>e=.returned (.int .i64 1)∧Below w.heap.size w w':=by
 obtain ⟨lim,gr,hr,gs,ga,gc⟩:=B
 simp only [bv]
 by_cases h1:Lim lim
 ·have hli:=fun W=>Zo lim W h1
  simp only [fv] at hli
  by_cases h2:0≤gr∧gr≤100
  ·have h3:¬ (1≤hr∧hr≤3):=fun h=>hn ⟨h1,h2,h⟩
   go_enter s11,ntmps11
   go_wp2_with (first | (go_at_call 50;(with_reducible refine (hli _).mono ?_);rintro e w1 ⟨rfl,hB1⟩;(first | (replace hB:=bcl (by with_reducible assumption) hB1) | (replace hB:=bcl (by go_grown) hB1) | (have hB:=hB1));(try clear hc hg hz);obtain ⟨hc,hg⟩:=qx hB;have hz:=hB.size;clear hB1;(try simp at hz);(try have hlt0:w.heap.size < w1.heap.size:=by omega)) | (go_at_call 51;(with_reducible refine (xe _ _ _ _ h2).mono ?_);rintro e w1 ⟨rfl,rfl⟩) | (go_at_call 51;(with_reducible refine (YZ _ _ _ _ h3).mono ?_);rintro e w1 ⟨rfl,rfl⟩))
   go_ret
   exact ⟨rfl,bcl (w:=w) (by go_grown) hB⟩
  ·go_enter s11,ntmps11
   go_wp2_with (first | (go_at_call 50;(with_reducible refine (hli _).mono ?_);rintro e w1 ⟨rfl,hB1⟩;(first | (replace hB:=bcl (by with_reducible assumption) hB1) | (replace hB:=bcl (by go_grown) hB1) | (have hB:=hB1));(try clear hc hg hz);obtain ⟨hc,hg⟩:=qx hB;have hz:=hB.size;clear hB1;(try simp at hz);(try have hlt0:w.heap.size < w1.heap.size:=by omega)) | (go_at_call 51;(with_reducible refine (YZ _ _ _ _ h2).mono ?_);rintro e w1 ⟨rfl,rfl⟩))
   go_ret
   exact ⟨rfl,bcl (w:=w) (by go_grown) hB⟩
 ·have hli:=fun W=>qfn lim W h1
  simp only [fv] at hli
  go_enter s11,ntmps11
  go_wp2_with (first | (go_at_call 50;(with_reducible refine (hli _).mono ?_);rintro e w1 ⟨rfl,hB1⟩;(first | (replace hB:=bcl (by with_reducible assumption) hB1) | (replace hB:=bcl (by go_grown) hB1) | (have hB:=hB1));(try clear hc hg hz);obtain ⟨hc,hg⟩:=qx hB;have hz:=hB.size;clear hB1;(try simp at hz);(try have hlt0:w.heap.size < w1.heap.size:=by omega)))
  go_ret
  exact ⟨rfl,bcl (w:=w) (by go_grown) hB⟩
set_option maxHeartbeats 4000000 in
set_option maxRecDepth 100000 in
theorem qda (B:Bk) (w:World) (hn:Jw B) (hl:¬ (1≤B.gs.length∧B.gs.length≤4)):Calls qf 11 #[bv B] w fun e w'=>e=.returned (.int .i64 2)∧Below w.heap.size w w':=by
 obtain ⟨lim,gr,hr,gs,ga,gc⟩:=B
 simp only [bv]
 obtain ⟨h1,h2,h3⟩:=hn
 simp only at h1 h2 h3 hl
 have hli:=fun W=>Zo lim W h1
 simp only [fv] at hli
 have h4:¬ ((1:Int)≤(gs.length:Int)∧(gs.length:Int)≤4):=by omega
 go_enter s11,ntmps11
 go_wp2_with (first | (go_at_call 50;(with_reducible refine (hli _).mono ?_);rintro e w1 ⟨rfl,hB1⟩;(first | (replace hB:=bcl (by with_reducible assumption) hB1) | (replace hB:=bcl (by go_grown) hB1) | (have hB:=hB1));(try clear hc hg hz);obtain ⟨hc,hg⟩:=qx hB;have hz:=hB.size;clear hB1;(try simp at hz);(try have hlt0:w.heap.size < w1.heap.size:=by omega)) | (go_at_call 51;(with_reducible refine (xe _ _ _ _ h2).mono ?_);rintro e w1 ⟨rfl,rfl⟩) | (go_at_call 51;(with_reducible refine (xe _ _ _ _ h3).mono ?_);rintro e w1 ⟨rfl,rfl⟩) | (go_at_call 51;(with_reducible refine (YZ _ _ _ _ h4).mono ?_);rintro e w1 ⟨rfl,rfl⟩))
 go_ret
 exact ⟨rfl,bcl (w:=w) (by go_grown) hB⟩
theorem Qw (w:World) (x:Value) (t:TypeId) (z:Nat) (hz:w.heap.size=z):∀j u,[x][j]? = some u→(w.alloc (.cells #[x] t)).cell? ((⟨z,0,none⟩:Addr).add j)=some u:=by subst hz;exact cell_one_new w x t
theorem QB (s:ByteArray):∀u∈[Value.string s],u.oneCell'=true:=by
 intro u hu
 rw [List.mem_singleton] at hu
 subst hu
 rfl
theorem qaD (p q s:Prop) [Decidable p] [Decidable q] [Decidable s] (X:Int):(if (if p then (1:Int) else if q then 2 else if s then 1 else 0)≠0 then (if p then (1:Int) else if q then 2 else if s then 1 else 0) else X)=if p then 1 else if q then 2 else if s then 1 else X:=by
 by_cases hp:p <;> by_cases hq:q <;> by_cases hs:s <;> simp [hp,hq,hs]
set_option maxHeartbeats 4000000 in
set_option maxRecDepth 100000 in
theorem Qh (B:Bk) (w:World) (h:BookAt w B):Calls qf 11 #[bv B] w fun e w'=>e=.returned (.int .i64 (checkN B))∧Below w.heap.size w w':=by
 by_cases hn:Jw B
 case neg =>
  have e1:zJ B=1:=if_neg hn
  have e:checkN B=1:=by unfold checkN;rw [e1,if_neg (by decide)]
  rw [e]
  exact qdb B w hn
 have e1:zJ B=0:=if_pos hn
 have e:checkN B=yN B:=by unfold checkN;rw [e1,if_pos rfl]
 rw [e]
 clear e e1
 by_cases hlen:1≤B.gs.length∧B.gs.length≤4
 case neg =>
  rw [show yN B=2 from if_neg hlen]
  exact qda B w hn hlen
 rw [show yN B=qP (zw B.gs B.hours) 0 B.gs from if_pos hlen]
 obtain ⟨R,hR⟩:∃R,qP (zw B.gs B.hours) 0 B.gs=R:=⟨_,rfl⟩
 rw [hR]
 have hrow:=h.row
 have hsm:=h.small.2
 have htr:=h.traf
 clear h
 obtain ⟨lim,gr,hr,gs,ga,gc⟩:=B
 obtain ⟨h1,h2,h3⟩:=hn
 simp only at h1 h2 h3 hlen hrow hR hsm htr
 simp only [bv]
 have HR:=Lib.hid hR
 clear hR
 obtain ⟨b,o,hga,hcs⟩:=hrow hlen.1
 simp only at hga hcs
 subst hga
 have HC:=Lib.hid hcs
 have HS:=Lib.hid hsm
 have HT:=Lib.hid htr
 clear hcs hsm htr hrow
 have hli:=fun W=>Zo lim W h1
 simp only [fv] at hli
 obtain ⟨i0,hi,hz0,hz1,hz2⟩:=info_parts info_str
 have h4:((1:Int)≤(gs.length:Int)∧(gs.length:Int)≤4):=by omega
 go_enter s11,ntmps11
 go_wp2_with (first | (go_at_call 50;(with_reducible refine (hli _).mono ?_);rintro e w1 ⟨rfl,hB1⟩;(first | (replace hB:=bcl (by with_reducible assumption) hB1) | (replace hB:=bcl (by go_grown) hB1) | (have hB:=hB1));(try clear hc hg hz);obtain ⟨hc,hg⟩:=qx hB;have hz:=hB.size;clear hB1;(try simp at hz);(try have hlt0:w.heap.size < w1.heap.size:=by omega)) | (go_at_call 51;(with_reducible refine (xe _ _ _ _ h2).mono ?_);rintro e w1 ⟨rfl,rfl⟩) | (go_at_call 51;(with_reducible refine (xe _ _ _ _ h3).mono ?_);rintro e w1 ⟨rfl,rfl⟩) | (go_at_call 51;(with_reducible refine (xe _ _ _ _ h4).mono ?_);rintro e w1 ⟨rfl,rfl⟩))
 obtain ⟨W,hW⟩:∃W,W=w1:=⟨_,rfl⟩
 have k3:W.cell? ⟨w.heap.size,3,none⟩=some (.int .i64 hr):=by rw [hW];go_cell
 have k4:W.cell? ⟨w.heap.size,4,none⟩=some (.slice (some ⟨b,o,none⟩) gs.length gc):=by rw [hW];go_cell
 have hBW:Below w.heap.size w W:=by rw [hW];exact bcl (w:=w) (by go_grown) hB
 rw [← hW]
 clear hc hg hB hz hW
 go_loopw [3,4] (fun v i wr=>∃k:Nat,i=.int .i64 k∧k≤gs.length∧Below W.heap.size W wr∧wr.ownsRow W.heap.size 9 1 v k (qab (gs.take k))∧Hid (qP (zw gs hr) k (gs.drop k)=R)) (fun _ i _=>gs.length - (intOf i).toNat)
 case atStart=>exact ⟨0,rfl,by omega,Below.refl _ _,World.ownsRow_nil _ _ _ _,HR⟩
 case round =>
  obtain ⟨k,rfl,hk,hBr,hown,HE⟩:=hrel
  have k3W:=k3
  have k4W:=k4
  have k3:=qb _ hBr k3
  have k4:=qb _ hBr k4
  have hBw:=bcl hBW hBr
  have hsz:=hBw.size
  have hsz1:=hBr.size
  have hsz2:w.heap.size < wr.heap.size:=lt_of_cell k4
  by_cases hlt:k < gs.length
  ·obtain ⟨g,hg⟩:∃g,gs[k]? = some g:=⟨gs[k],by simp [hlt]⟩
   have hm:g∈gs:=List.mem_of_getElem? hg
   obtain ⟨c0,c1,c2⟩:=HC.out k g hg
   have c0:=qb _ hBw c0
   have c1:=qb _ hBw c1
   have c2:=qb _ hBw c2
   have hnm:=fun W=>qbj g.name (HS.out g hm).2 W
   have hix:=fun (X:World) (hB:Below wr.heap.size wr X)=>qaz ((gs.take k).map (·.name)) g.name _ (by rw [List.length_map,List.length_take];omega) X (qeN hk (zS hown hB))
   simp only [qcJ] at hix
   have hA:=HE.out
   rw [jH _ hg] at hA
   obtain ⟨r1,h1⟩:∃r,jy g.name=r:=⟨_,rfl⟩
   obtain ⟨r2,h2⟩:∃r,((gs.take k).any fun o=>o.name.toList == g.name.toList)=r:=⟨_,rfl⟩
   have hga:zw gs hr k g=if r1=false then 4 else if r2=true then 5 else if btw g.trunks 0 7=false then 1 else if (g.traffic.length:Int)≠hr then 2 else if (g.traffic.any fun x => !decide (yj x))=true then 1 else 0:=by unfold zw;rw [h1,h2]
   rw [hga] at hA
   simp only [h1] at hnm
   simp only [h2] at hix
   have hstep:=qcV hg
   clear hga h1 h2
   have fin:∀{q:Int} {w1:World},R=q→Below w.heap.size w w1→Ending.returned (.int .i64 q)=Ending.returned (.int .i64 R)∧Below w.heap.size w w1:=fun e hb=>⟨by rw [e],hb⟩
   cases r1 with
   | false =>
     simp only [if_true] at hA
     have HA:Hid (R=4):=Lib.hid (by rw [← hA];rfl)
     clear hA hix
     go_wp2_with (first | (go_at_call 52;(with_reducible refine (hnm _).mono ?_);rintro e w1 ⟨rfl,rfl⟩))
     go_ret
     exact fin HA.out (Below.call hBw (B:=w.heap.size) (by go_grown) (by omega))
   | true =>
     cases r2 with
     | true =>
       have HA:Hid (R=5):=Lib.hid (by rw [← hA];rfl)
       clear hA
       go_wp2_with (first | (go_at_call 52;(with_reducible refine (hnm _).mono ?_);rintro e w1 ⟨rfl,rfl⟩) | (go_at_call 53;(refine (hix _ (by go_grown)).mono ?_);rintro e w1 ⟨⟨ri,rfl,hri⟩,rfl⟩))
       go_ret
       exact fin HA.out (Below.call hBw (B:=w.heap.size) (by go_grown) (by omega))
     | false =>
       rw [if_neg (show ¬ (true=false) by decide),if_neg (show ¬ (false=true) by decide),qaD] at hA
       have hne:some wr.heap.size≠u3.ownBlock:=fun e=>by have:=(hown.lt _ e.symm).2;omega
       by_cases ht:0≤g.trunks∧g.trunks≤7
       ·have htb:btw g.trunks 0 7=true:=by unfold btw;simp [ht.1,ht.2]
        rw [htb] at hA
        rw [if_neg (show ¬ (true=false) by decide)] at hA
        by_cases hl:(g.traffic.length:Int)=hr
        ·have hlb:((g.traffic.length:Int) != hr)=false:=by simp [hl]
         have HA:=Lib.hid hA
         obtain ⟨tb,tq,hta,hps⟩:=HT.out g hm (by omega)
         have HP:=Lib.hid hps
         have hm20:=(HS.out g hm).1
         clear hA hps hg hm
         go_wp2_with (first | (go_at_call 52;(with_reducible refine (hnm _).mono ?_);rintro e w1 ⟨rfl,rfl⟩) | (go_at_call 53;(refine (hix _ (by go_grown)).mono ?_);rintro e w1 ⟨⟨ri,rfl,hri⟩,rfl⟩) | (at_builtin;refine wpList_append_own _ rfl (.tmp 49) (.tmp 52) 81 rfl W.heap.size 9 i0 (.string ⟨#[]⟩) 1 16 ((qY _).trans Tryz.underlying81) hi hz0 hz1 hz2 rfl (by decide) _ _ _ rfl ((zS hown (by go_grown)).alloc _) ⟨_,0,none⟩ 1 1 [.string g.name] rfl rfl (Qw _ _ _ _ (by simp)) (QB _) (by unfold maxLen;omega) (by omega) (by simp;omega) ?_;intro v1 w3 hown1 hgrow1 hnil1;have b1:w3.cell? ⟨wr.heap.size,1,none⟩=some (.int .i64 g.trunks):=hgrow1.cell (by go_cell) hne;have b2:w3.cell? ⟨wr.heap.size,2,none⟩=some (.slice g.ta g.traffic.length g.tc):=hgrow1.cell (by go_cell) hne;have hB3:Below W.heap.size W w3:=((bcl hBr (by go_grown)).alloc (by simp;omega) _).grown hgrow1 (by simp;omega) (fun j hj=>(hown.lt j hj).1);have z3:=hB3.size;have k3':=qb _ hB3 k3W;have k4':=qb _ hB3 k4W;have hBw3:=bcl hBW hB3) | (go_at_call 54;(with_reducible refine (YI _ _ ht).mono ?_);rintro e w1 ⟨rfl,rfl⟩))
         rw [hta] at b2
         clear k3 k4 c0 c1 c2 k3W k4W b1
         go_loopw [6] (fun i wq=>∃j:Nat,i=.int .i64 j∧j≤g.traffic.length∧Below w3.heap.size w3 wq∧Hid (∀(p:Nat) (x:Int×Int),p < j→g.traffic[p]? = some x→yj x)) (fun i _=>g.traffic.length - (intOf i).toNat)
         case atStart=>exact ⟨0,rfl,by omega,Below.refl _ _,Lib.hid fun p x hp=>absurd hp (Nat.not_lt_zero _)⟩
         case round =>
          rename_i wq
          obtain ⟨j,rfl,hj,hBq,HJ⟩:=hrel
          have b2:=qb _ hBq b2
          have hBwq:=bcl hBw3 hBq
          by_cases hjl:j < g.traffic.length
          ·obtain ⟨x,hx⟩:∃x,g.traffic[j]? = some x:=⟨g.traffic[j],by simp [hjl]⟩
           obtain ⟨p0,p1⟩:=HP.out j x hx
           have p0:=qb _ hBwq p0
           have p1:=qb _ hBwq p1
           by_cases hT:yj x
           ·have htf:=fun W=>qah x W hT
            simp only [fv] at htf
            have HN:Hid (∀(p:Nat) (y:Int×Int),p < j+1→g.traffic[p]? = some y→yj y):=Lib.hid fun p y hp hy=>by
             rcases Nat.lt_succ_iff_lt_or_eq.1 hp with q1 | rfl
             ·exact HJ.out p y q1 hy
             ·rw [hx] at hy
              cases hy
              exact hT
            clear hx hT
            go_wp2_with (go_at_call 55;(with_reducible refine (htf _).mono ?_);rintro e wz ⟨rfl,hBz⟩)
            go_roundw
            case rel=>exact ⟨j+1,by go_num,by omega,bcl hBq hBz,HN⟩
            case measure=>simp [intOf];omega
           ·have htf:=fun W=>qbk x W hT
            simp only [fv] at htf
            have HA:Hid (R=1):=Lib.hid (by rw [← HA.out,if_neg (by simp [hl]),if_pos (qfN hx hT)])
            clear hx hT
            go_wp2_with (go_at_call 55;(with_reducible refine (htf _).mono ?_);rintro e wz ⟨rfl,hBz⟩)
            go_ret
            exact fin HA.out (bcl hBwq hBz)
          ·obtain rfl:j=g.traffic.length:=by omega
           have HA:Hid (qP (zw gs hr) (k+1) (gs.drop (k+1))=R):=Lib.hid (by rw [← HA.out,if_neg (by simp [hl]),if_neg (by rw [traf_all.2 fun p x hx=>HJ.out p x (List.getElem?_eq_some_iff.1 hx).1 hx];simp)])
           go_wp2
           go_roundw
           case rel=>exact ⟨k+1,by go_num,by omega,bcl hB3 hBq,by rw [← hstep];exact zS hown1 hBq,HA⟩
           case measure=>simp [intOf];omega
        ·have hlb:((g.traffic.length:Int) != hr)=true:=by simp [hl]
         have HA:Hid (R=2):=Lib.hid (by rw [← hA,if_pos hl])
         clear hA hg hm
         go_wp2_with (first | (go_at_call 52;(with_reducible refine (hnm _).mono ?_);rintro e w1 ⟨rfl,rfl⟩) | (go_at_call 53;(refine (hix _ (by go_grown)).mono ?_);rintro e w1 ⟨⟨ri,rfl,hri⟩,rfl⟩) | (at_builtin;refine wpList_append_own _ rfl (.tmp 49) (.tmp 52) 81 rfl W.heap.size 9 i0 (.string ⟨#[]⟩) 1 16 ((qY _).trans Tryz.underlying81) hi hz0 hz1 hz2 rfl (by decide) _ _ _ rfl ((zS hown (by go_grown)).alloc _) ⟨_,0,none⟩ 1 1 [.string g.name] rfl rfl (Qw _ _ _ _ (by simp)) (QB _) (by unfold maxLen;omega) (by omega) (by simp;omega) ?_;intro v1 w3 hown1 hgrow1 hnil1;have b1:w3.cell? ⟨wr.heap.size,1,none⟩=some (.int .i64 g.trunks):=hgrow1.cell (by go_cell) hne;have b2:w3.cell? ⟨wr.heap.size,2,none⟩=some (.slice g.ta g.traffic.length g.tc):=hgrow1.cell (by go_cell) hne;have hB3:Below W.heap.size W w3:=((bcl hBr (by go_grown)).alloc (by simp;omega) _).grown hgrow1 (by simp;omega) (fun j hj=>(hown.lt j hj).1);have z3:=hB3.size;have k3':=qb _ hB3 k3W;have k4':=qb _ hB3 k4W;have hBw3:=bcl hBW hB3) | (go_at_call 54;(with_reducible refine (YI _ _ ht).mono ?_);rintro e w1 ⟨rfl,rfl⟩))
         go_ret
         exact fin HA.out hBw3
       ·have htb:btw g.trunks 0 7=false:=by unfold btw;rw [Bool.and_eq_false_iff,decide_eq_false_iff_not,decide_eq_false_iff_not];omega
        have HA:Hid (R=1):=Lib.hid (by rw [← hA,if_pos htb])
        clear hA hg hm
        go_wp2_with (first | (go_at_call 52;(with_reducible refine (hnm _).mono ?_);rintro e w1 ⟨rfl,rfl⟩) | (go_at_call 53;(refine (hix _ (by go_grown)).mono ?_);rintro e w1 ⟨⟨ri,rfl,hri⟩,rfl⟩) | (at_builtin;refine wpList_append_own _ rfl (.tmp 49) (.tmp 52) 81 rfl W.heap.size 9 i0 (.string ⟨#[]⟩) 1 16 ((qY _).trans Tryz.underlying81) hi hz0 hz1 hz2 rfl (by decide) _ _ _ rfl ((zS hown (by go_grown)).alloc _) ⟨_,0,none⟩ 1 1 [.string g.name] rfl rfl (Qw _ _ _ _ (by simp)) (QB _) (by unfold maxLen;omega) (by omega) (by simp;omega) ?_;intro v1 w3 hown1 hgrow1 hnil1;have b1:w3.cell? ⟨wr.heap.size,1,none⟩=some (.int .i64 g.trunks):=hgrow1.cell (by go_cell) hne;have b2:w3.cell? ⟨wr.heap.size,2,none⟩=some (.slice g.ta g.traffic.length g.tc):=hgrow1.cell (by go_cell) hne;have hB3:Below W.heap.size W w3:=((bcl hBr (by go_grown)).alloc (by simp;omega) _).grown hgrow1 (by simp;omega) (fun j hj=>(hown.lt j hj).1);have z3:=hB3.size;have k3':=qb _ hB3 k3W;have k4':=qb _ hB3 k4W;have hBw3:=bcl hBW hB3) | (go_at_call 54;(with_reducible refine (qdd _ _ ht).mono ?_);rintro e w1 ⟨rfl,rfl⟩))
        go_ret
        exact fin HA.out hBw3
  ·obtain rfl:k=gs.length:=by omega
   have hA:=HE.out
   rw [List.drop_length] at hA
   have HA:=Lib.hid hA
   clear hA
   go_wp2
   go_ret
   exact ⟨by rw [← HA.out];rfl,hBw⟩
end Go.Proofs.Tryz
