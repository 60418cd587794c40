/-
  Lemmas about the program and the machine (C25 to C25), upon which the last text of this claim rests; no condition.
-/
import Derived.Test.YtnpjncjnmpfgpaaGreatDoorG07
set_option linter.unusedSimpArgs false
set_option linter.unusedVariables false
namespace Go.Proofs.Tryz
open Go Go.Load Go.RowKit
theorem Zd (B:Bk) (n:Int) (w:World):Calls qf 75 #[bv B,.int .i64 n] w fun e w'=>e=.returned (.bool (btw n 0 (wrap64 (B.hours - 1))))∧Below w.heap.size w w':=by
 obtain ⟨lim,gr,hr,gs,ga,gc⟩:=B
 simp only [bv] at *
 go_enter s75,ntmps75
 go_wp2_with (go_at_call 65;(with_reducible refine (zX _ _ _ _).mono ?_);rintro e w1 ⟨rfl,rfl⟩)
 go_ret
 exact ⟨rfl,by go_grown⟩
theorem Zc {B:Bk} (h:checkN B=0):wrap64 (B.hours - 1)=B.hours - 1:=by
 have:=(qI h).num.2.2
 exact IntWalk.wrap64_in _ (by omega)
def qfJ (B:Bk) (h:Nat) (k:Nat):Int:=((B.gs.take k).map fun g=>1000 * (xq g h 3).1 / (xq g h 3).2).sum
theorem qfK {B:Bk} {h k:Nat} {g:Grp} (hg:B.gs[k]? = some g):qfJ B h (k+1)=qfJ B h k+1000 * (xq g h 3).1 / (xq g h 3).2:=by
 obtain ⟨hk,rfl⟩:=List.getElem?_eq_some_iff.1 hg
 unfold qfJ
 rw [List.take_succ_eq_append_getElem hk,List.map_append,List.sum_append]
 simp only [List.map_cons,List.map_nil,List.sum_cons,List.sum_nil,Int.add_zero]
def sumV (B:Bk) (n:Int):Value:=if checkN B=0 then (if btw n 0 (wrap64 (B.hours - 1)) then .tuple #[.int .i64 (qfJ B n.toNat B.gs.length),.int .i64 0] else .tuple #[.int .i64 0,.int .i64 6]) else .tuple #[.int .i64 0,.int .i64 (checkN B)]
theorem qcL {B:Bk} (hV:Valid B) {g:Grp} (hg:g∈B.gs) {h:Nat} (hh:(h:Int) < B.hours):0≤(xq g h 3).1∧1≤(xq g h 3).2∧(xq g h 3).1≤1966080000000:=by
 have hG:=hV.grp g hg
 have hlen:=hG.len
 have h3:h < 3:=by have:=hV.num.2.2.2;omega
 obtain ⟨x,hx⟩:∃x,g.traffic[h]? = some x:=⟨g.traffic[h]'(by omega),by simp⟩
 have hx2:=hG.traf x (List.mem_of_getElem? hx)
 obtain ⟨k1,k2,k3,k4⟩:=jP hx2.1.1 hx2.1.2 hx2.2.1 hx2.2.2
 obtain ⟨q1,q2,q3,q4,_⟩:=yZ k1 k2 k3 k4 g.trunks.toNat (by have:=hG.tr7;omega)
 have e:xq g h 3=qJ (low x.1 x.2) g.trunks.toNat:=by unfold xq;rw [if_pos h3,hx]
 rw [e]
 exact ⟨q1,q2,q4⟩
set_option maxHeartbeats 8000000 in
set_option maxRecDepth 100000 in
theorem Sum_any (B:Bk) (n:Int) (w:World) (h:BookAt w B) (hG:Globs w):Calls qf 28 #[bv B,.int .i64 n] w fun e w'=>e=.returned (sumV B n)∧Below w.heap.size w w':=by
 have his:=fun W=>Zd B n W
 have hop:=fun W (hB:Below w.heap.size w W)=>yw B (btw n 0 (wrap64 (B.hours - 1))) W (h.keep hB) (hG.keep hB)
 obtain ⟨n0,n1,n2,n3,xa,xn,xc,a,hv,hcase⟩:=Qg B (btw n 0 (wrap64 (B.hours - 1)))
 simp only [hv] at hop
 have HH:=Lib.hid h
 have hRa:a≠0→sumV B n=.tuple #[.int .i64 0,.int .i64 a]:=fun h0=>by
  rcases hcase with ⟨e,_⟩ | ⟨⟨_,ha⟩,hf⟩
  ·exact absurd e h0
  ·unfold sumV
   by_cases hz:checkN B=0
   ·rw [if_pos hz] at ha ⊢;rw [hf hz,ha];rfl
   ·rw [if_neg hz] at ha ⊢;rw [ha]
 have hR0:a=0→checkN B=0∧btw n 0 (wrap64 (B.hours - 1))=true∧B.lim.1=n0∧B.lim.2=n1∧B.growth=n2∧B.hours=n3∧B.ga=xa∧B.gs.length=xn∧B.gc=xc:=fun h0=>by
  rcases hcase with ⟨_,h1,h2,h3,h4,h5,h6,h7,h8,h9⟩ | ⟨⟨h1,_⟩,_⟩
  ·exact ⟨h1,h2,h3.symm,h4.symm,h5.symm,h6.symm,h7.symm,h8.symm,h9.symm⟩
  ·exact absurd h0 h1
 have hRz:a=0→sumV B n=.tuple #[.int .i64 (qfJ B n.toNat B.gs.length),.int .i64 0]:=fun h0=>by
  obtain ⟨h1,h2,_⟩:=hR0 h0
  unfold sumV;rw [if_pos h1,h2];rfl
 obtain ⟨R,hR⟩:∃R,sumV B n=R:=⟨_,rfl⟩
 rw [hR] at hRa hRz ⊢
 have HA:=Lib.hid hRa
 have HZ:=Lib.hid hRz
 have H0:=Lib.hid hR0
 generalize btw n 0 (wrap64 (B.hours - 1))=t at his hop
 clear h hG hv hcase hR hRa hRz hR0
 have HS:=Lib.hid fun (h k:Nat) (g:Grp) (hg:B.gs[k]? = some g)=>qfK (h:=h) hg
 have HSZ:Hid (∀h,qfJ B h 0=0):=Lib.hid fun h=>by simp [qfJ]
 have i0:∀(a0 a1 a2 a3 a4 a5:Int) (w:World),(Instr.index 119 (.agg #[.int .i64 a0,.int .i64 a1,.int .i64 a2,.int .i64 a3,.int .i64 a4,.int .i64 a5]) (.int .i64 0)).run qf w=.ok (.agg #[.int .i64 a0,.int .i64 a1]) w:=fun _ _ _ _ _ _ _=>by kernel_rfl
 have i1:∀(a0 a1 a2 a3 a4 a5:Int) (w:World),(Instr.index 119 (.agg #[.int .i64 a0,.int .i64 a1,.int .i64 a2,.int .i64 a3,.int .i64 a4,.int .i64 a5]) (.int .i64 1)).run qf w=.ok (.agg #[.int .i64 a2,.int .i64 a3]) w:=fun _ _ _ _ _ _ _=>by kernel_rfl
 have i2:∀(a0 a1 a2 a3 a4 a5:Int) (w:World),(Instr.index 119 (.agg #[.int .i64 a0,.int .i64 a1,.int .i64 a2,.int .i64 a3,.int .i64 a4,.int .i64 a5]) (.int .i64 2)).run qf w=.ok (.agg #[.int .i64 a4,.int .i64 a5]) w:=fun _ _ _ _ _ _ _=>by kernel_rfl
 have HI:Hid (∀(k:Nat) (f:Nat→Int×Int) (w:World),k < 3→(Instr.index 119 (hv f) (.int .i64 k)).run qf w=.ok (.agg #[.int .i64 (f k).1,.int .i64 (f k).2]) w):=Lib.hid fun k f w hk=>by
  rcases (show k=0∨k=1∨k=2 by omega) with rfl | rfl | rfl
  ·exact i0 _ _ _ _ _ _ _
  ·exact i1 _ _ _ _ _ _ _
  ·exact i2 _ _ _ _ _ _ _
 clear i0 i1 i2
 obtain ⟨lim,gr,hr,gs,ga,gc⟩:=B
 simp only [bv] at *
 go_enter s28,ntmps28
 go_upto_region 1 with fail
 go_cut [5,6] (fun al p wx=>∃q:Nat,p=.pointer (some ⟨q,0,none⟩)∧al=.int .i64 a∧Below w.heap.size w wx∧Opened w (.int .i64 lim.1) (.int .i64 lim.2) (.int .i64 gr) (.int .i64 hr) (.slice ga gs.length gc) (.int .i64 n0) (.int .i64 n1) (.int .i64 n2) (.int .i64 n3) (.slice xa xn xc) q wx)
 case rest =>
  obtain ⟨q,rfl,rfl,hBc,hO⟩:=hcut
  by_cases hz:a=0
  ·have h0:=H0.out hz
   have hRR:=HZ.out hz
   subst hz
   obtain ⟨hz,ht,rfl,rfl,rfl,rfl,rfl,rfl,rfl⟩:=h0
   have hV:=qI hz
   have ht:=xh.1 ht
   rw [Zc hz] at ht
   obtain ⟨hn0,hn1⟩:=ht
   obtain ⟨h,rfl⟩:=Int.eq_ofNat_of_zero_le hn0
   have hhr:(h:Int) < hr:=by have:(h:Int)≤hr - 1:=hn1;omega
   have hr3:hr≤3:=hV.num.2.2.2
   obtain ⟨b,o,hga,hcs⟩:=HH.out.row hV.len1
   simp only at hga
   subst hga
   have HV:=Lib.hid hV
   have hl4:gs.length≤4:=hV.len4
   have HRR:=Lib.hid hRR
   have HC:=Lib.hid hcs
   have HB:=Lib.hid fun (g:Grp) (hg:g∈gs)=>qcL hV hg hhr
   obtain ⟨d0,d1,d2,d3,d4⟩:=hO.arg
   obtain ⟨x0,x1,x2,x3,x4⟩:=hO.x
   clear hRR hV hz hn0 hn1 hcs hO
   go_wp2
   go_loopw [4,23] (fun s i wr=>∃k:Nat,i=.int .i64 k∧k≤gs.length∧s=.int .i64 (qfJ ⟨lim,gr,hr,gs,some ⟨b,o,none⟩,gc⟩ h k)∧0≤qfJ ⟨lim,gr,hr,gs,some ⟨b,o,none⟩,gc⟩ h k∧qfJ ⟨lim,gr,hr,gs,some ⟨b,o,none⟩,gc⟩ h k≤1966080000000000 * k∧Below wc.heap.size wc wr) (fun _ i _=>gs.length - (intOf i).toNat)
   case atStart=>exact ⟨0,rfl,by omega,by rw [HSZ.out],by rw [HSZ.out];decide,by rw [HSZ.out];decide,by go_grown⟩
   case round =>
    obtain ⟨k,rfl,hk,rfl,hs0,hs1,hBr⟩:=hrel
    have x0:=qb _ hBr x0
    have x1:=qb _ hBr x1
    have x2:=qb _ hBr x2
    have x3:=qb _ hBr x3
    have x4:=qb _ hBr x4
    have hBw:=bcl hBc hBr
    by_cases hlt:k < gs.length
    ·obtain ⟨g,hg⟩:∃g,gs[k]? = some g:=⟨gs[k],by simp [hlt]⟩
     have hm:g∈gs:=List.mem_of_getElem? hg
     have hho:=qel ⟨lim,gr,hr,gs,some ⟨b,o,none⟩,gc⟩ k g hg wr (HH.out.keep hBw) (HV.out.grp g hm) hr3
     have hin:=fun w=>HI.out h (fun j=>xq g j 3) w (by omega)
     obtain ⟨b1,b2,b3⟩:=HB.out g hm
     have hsn:=HS.out h k g hg
     generalize qfJ ⟨lim,gr,hr,gs,some ⟨b,o,none⟩,gc⟩ h k=s at *
     have HN:=Lib.hid hsn
     clear hsn hg hm
     simp only [hv] at hin
     simp only [bv,hv] at hho
     have HHO:=Lib.hid hho
     clear hho
     generalize xq g h 3=r at *
     have hq0:=Int.ediv_nonneg (show 0≤1000 * r.1 by omega) (show 0≤r.2 by omega)
     have hq1:=Int.ediv_le_self r.2 (show 0≤1000 * r.1 by omega)
     have hrb:(r.2 == 0)=false:=by rw [beq_eq_false_iff_ne];omega
     go_wp2_with (go_at_call 83;(with_reducible refine HHO.out.mono ?_);rintro e w1 ⟨rfl,hB1⟩)
     have hBz:=bcl hBr hB1
     go_roundw
     case rel=>exact ⟨k+1,rfl,by omega,by rw [HN.out],by rw [HN.out];omega,by rw [HN.out];omega,hBz.alloc hBz.size _⟩
     case measure=>simp [intOf];omega
    ·obtain rfl:k=gs.length:=by omega
     go_wp2
     go_ret2
     exact ⟨by rw [HRR.out];rfl,hBw⟩
  ·have hb:(a != 0)=true:=bne_iff_ne.2 hz
   have HRR:=Lib.hid (HA.out hz)
   clear hz
   go_wp2
   go_ret2
   exact ⟨by rw [HRR.out];rfl,hBc⟩
 case first =>
  go_region_with (first | (go_at_call 75;refine (his _).mono ?_;rintro e w1 ⟨rfl,hB1⟩;have hBw:=bcl (w:=w) (by go_grown) hB1;obtain ⟨hc,hg⟩:=qx hB1;have hz:=hB1.size;(try simp at hz);have hz2:w.heap.size < w1.heap.size:=(by omega);(try have hz5:w.heap.size+1 < w1.heap.size:=(by omega))) | (go_at_call 42;refine (hop _ (by go_grown)).mono ?_;rintro e w2 ⟨rfl,hB2⟩;have hBx:=bcl (w:=w) (by go_grown) hB2;obtain ⟨hc2,hg2⟩:=qx hB2;have hz3:=hB2.size;(try simp at hz3);have hz4:w.heap.size < w2.heap.size:=(by omega)))
  all_goals
   go_wp2_with fail
   go_meet
   exact ⟨_,rfl,rfl,(by go_grown),⟨⟨by go_cell,by go_cell,by go_cell,by go_cell,by go_cell⟩,⟨by go_cell,by go_cell,by go_cell,by go_cell,by go_cell⟩,⟨by go_cell,by go_cell,by go_cell,by go_cell,by go_cell⟩,by first | omega | (simp;done) | (simp;omega)⟩⟩
end Go.Proofs.Tryz
