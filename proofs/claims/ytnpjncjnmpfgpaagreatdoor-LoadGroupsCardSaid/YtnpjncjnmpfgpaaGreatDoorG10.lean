/-
  Lemmas about the program and the machine (C29 to C29), upon which the last text of this claim rests; no condition.
-/
import Derived.Test.YtnpjncjnmpfgpaaGreatDoorG08
set_option linter.unusedSimpArgs false
set_option linter.unusedVariables false
namespace Go.Proofs.Tryz
open Go Go.Load Go.RowKit
def qaE (B:Bk) (n:Int):Value:=if checkN B=0 then (if btw n 0 (wrap64 (B.hours - 1)) then .tuple #[.int .i64 (zb B n.toNat B.gs.length).1,fv (zb B n.toNat B.gs.length).2,.int .i64 0] else .tuple #[.int .i64 0,fv (0,0),.int .i64 6]) else .tuple #[.int .i64 0,fv (0,0),.int .i64 (checkN B)]
theorem ZE {R:Ending→World→Prop} {fn:Func} {ts:Array Value} {p q r:Tmp} {w1:World} {b:Nat} {v0 v1 u x:Value} (h:fn.results=#[.tmp q,.cell p 23,.tmp r]) (hp:ts.getD p undef=.pointer (some ⟨b,0,none⟩)) (hq:ts.getD q undef=u) (hr:ts.getD r undef=x) (c0:w1.cell? ⟨b,0,none⟩=some v0) (c1:w1.cell? ⟨b,1,none⟩=some v1)
 (hR:R (.returned (.tuple #[u,.agg #[v0,v1],x])) w1):bodyPost qf fn R .ret ⟨ts,[]⟩ w1 :=
 bodyPost_ret (qbn h hp hq hr (xu zl qW c0 c1)) rfl hR
set_option maxHeartbeats 8000000 in
set_option maxRecDepth 100000 in
theorem Best_any (B:Bk) (n:Int) (w:World) (h:BookAt w B) (hG:Globs w):Calls qf 24 #[bv B,.int .i64 n] w fun e w'=>e=.returned (qaE B n)∧Below w.heap.size w w':=by
 have his:=fun W=>Zd B n W
 have hop:=fun W (hB:Below w.heap.size w W)=>yw B (btw n 0 (wrap64 (B.hours - 1))) W (h.keep hB) (hG.keep hB)
 obtain ⟨n0,n1,n2,n3,xa,xn,xc,a,hv,hcase⟩:=Qg B (btw n 0 (wrap64 (B.hours - 1)))
 simp only [hv] at hop
 have HH:=Lib.hid h
 have hRa:a≠0→qaE B n=.tuple #[.int .i64 0,fv (0,0),.int .i64 a]:=fun h0=>by
  rcases hcase with ⟨e,_⟩ | ⟨⟨_,ha⟩,hf⟩
  ·exact absurd e h0
  ·unfold qaE
   by_cases hz:checkN B=0
   ·rw [if_pos hz] at ha ⊢;rw [hf hz,ha];rfl
   ·rw [if_neg hz] at ha ⊢;rw [ha]
 have hR0:a=0→checkN B=0∧btw n 0 (wrap64 (B.hours - 1))=true∧B.lim.1=n0∧B.lim.2=n1∧B.growth=n2∧B.hours=n3∧B.ga=xa∧B.gs.length=xn∧B.gc=xc:=fun h0=>by
  rcases hcase with ⟨_,h1,h2,h3,h4,h5,h6,h7,h8,h9⟩ | ⟨⟨h1,_⟩,_⟩
  ·exact ⟨h1,h2,h3.symm,h4.symm,h5.symm,h6.symm,h7.symm,h8.symm,h9.symm⟩
  ·exact absurd h0 h1
 have hRz:a=0→qaE B n=.tuple #[.int .i64 (zb B n.toNat B.gs.length).1,fv (zb B n.toNat B.gs.length).2,.int .i64 0]:=fun h0=>by
  obtain ⟨h1,h2,_⟩:=hR0 h0
  unfold qaE;rw [if_pos h1,h2];rfl
 obtain ⟨R,hR⟩:∃R,qaE B n=R:=⟨_,rfl⟩
 rw [hR] at hRa hRz ⊢
 have HA:=Lib.hid hRa
 have HZ:=Lib.hid hRz
 have H0:=Lib.hid hR0
 generalize btw n 0 (wrap64 (B.hours - 1))=t at his hop
 clear h hv hcase hR hRa hRz hR0
 have hmm:=YC
 have HGl:=Lib.hid hG
 obtain ⟨lim,gr,hr,gs,ga,gc⟩:=B
 simp only [bv] at *
 go_enter s24,ntmps24
 go_upto_region 1 with fail
 go_cut [6,7] (fun al p wx=>∃q:Nat,wx.cell? ⟨w.heap.size+1,0,none⟩=some (.int .i64 0)∧wx.cell? ⟨w.heap.size+1,1,none⟩=some (.int .i64 0)∧wx.frozen? ⟨w.heap.size+1,0,none⟩=false∧wx.frozen? ⟨w.heap.size+1,1,none⟩=false∧w.heap.size+1 < q∧p=.pointer (some ⟨q,0,none⟩)∧al=.int .i64 a∧Below w.heap.size w wx∧Opened w (.int .i64 lim.1) (.int .i64 lim.2) (.int .i64 gr) (.int .i64 hr) (.slice ga gs.length gc) (.int .i64 n0) (.int .i64 n1) (.int .i64 n2) (.int .i64 n3) (.slice xa xn xc) q wx)
 case rest =>
  obtain ⟨q,r0,r1,f0,f1,hq,rfl,rfl,hBc,hO⟩:=hcut
  by_cases hz:a=0
  ·have h0:=H0.out hz
   have hRR:=HZ.out hz
   subst hz
   obtain ⟨hz,ht,rfl,rfl,rfl,rfl,rfl,rfl,rfl⟩:=h0
   have hV:=qI hz
   have ht:=xh.1 ht
   rw [Zc hz] at ht
   obtain ⟨hn0,hn1⟩:=ht
   obtain ⟨h,rfl⟩:=Int.eq_ofNat_of_zero_le hn0
   have hhr:(h:Int) < hr:=by have:(h:Int)≤hr - 1:=hn1;omega
   have hr3:hr≤3:=hV.num.2.2.2
   have HV:=Lib.hid hV
   have HRR:=Lib.hid hRR
   have hGc:=HGl.out.keep hBc
   obtain ⟨x0,x1,x2,x3,x4⟩:=hO.x
   have hlq:=lt_of_cell x0
   have hl0:w.heap.size+1 < wc.heap.size:=lt_of_cell r0
   have hBm:Below wc.heap.size wc (wc.alloc (.map #[] 0)):=(Below.refl _ wc).alloc (Nat.le_refl _) _
   have HBE:=Lib.hid (qbO ⟨lim,gr,hr,gs,ga,gc⟩ wc.heap.size h (wc.alloc (.map #[] 0)) ((HH.out.keep hBc).keep hBm) hV (hGc.keep hBm) (Qc wc) hhr)
   simp only [bestV,bv,fv] at HBE
   rw [Int.toNat_natCast] at HRR
   generalize zb ⟨lim,gr,hr,gs,ga,gc⟩ h gs.length=r at HBE HRR
   clear hRR hV hz hn0 hn1 hO hGc
   have hfr:=fun W=>Zx r.2 W
   simp only [fv] at hfr
   go_wp2_with (first | (go_at_call 76;(with_reducible refine HBE.out.mono ?_);rintro e w1 ⟨rfl,hO⟩;have r0:=one_cell (Qc wc) hO.2 (qi r0);have r1:=one_cell (Qc wc) hO.2 (qi r1);have g1:=hO.2.size;simp at g1;have f0:=qB hO.2 (qi ‹wc.cell? ⟨w.heap.size+1,0,none⟩=_›) (qo ‹wc.cell? ⟨w.heap.size+1,0,none⟩=_› f0) (by simp <;> omega);have f1:=qB hO.2 (qi ‹wc.cell? ⟨w.heap.size+1,1,none⟩=_›) (qo ‹wc.cell? ⟨w.heap.size+1,1,none⟩=_› f1) (by simp <;> omega)) | (go_at_call 77;refine (hfr _).mono ?_;rintro e w2 ⟨rfl,hB2⟩;have r0:=qb _ hB2 (qi r0);have r1:=qb _ hB2 (qi r1);have f0:=qg _ hB2 (qi ‹w1.cell? ⟨w.heap.size+1,0,none⟩=_›) (qo ‹w1.cell? ⟨w.heap.size+1,0,none⟩=_› f0);have f1:=qg _ hB2 (qi ‹w1.cell? ⟨w.heap.size+1,1,none⟩=_›) (qo ‹w1.cell? ⟨w.heap.size+1,1,none⟩=_› f1)))
   have hp:=ZP (.int .i64 r.2.1) (.int .i64 r.2.2) r0 r1
   refine ZE results24 rfl rfl rfl hp.1 hp.2 ⟨by rw [HRR.out];rfl,?_⟩
   have hsz:=hBc.size
   have hB1:Below w.heap.size w w1:=(hBc.alloc hsz (.map #[] 0)).grown hO.2 (by simp;omega) (fun k e=>by cases e;exact hsz)
   exact ((bcl (w:=w) (hB1.alloc (by omega) _) hB2).setCell (p:=⟨w.heap.size+1,0,none⟩) (Nat.le_succ _) _).setCell (p:=⟨w.heap.size+1,1,none⟩) (Nat.le_succ _) _
  ·have hb:(a != 0)=true:=bne_iff_ne.2 hz
   have HRR:=Lib.hid (HA.out hz)
   clear hz
   go_wp2
   have hp:=ZP (.int .i64 0) (.int .i64 0) r0 r1
   refine ZE results24 rfl rfl rfl hp.1 hp.2 ⟨by rw [HRR.out];rfl,?_⟩
   exact (hBc.setCell (p:=⟨w.heap.size+1,0,none⟩) (Nat.le_succ _) _).setCell (p:=⟨w.heap.size+1,1,none⟩) (Nat.le_succ _) _
 case first =>
  go_region_with (first | (go_at_call 75;refine (his _).mono ?_;rintro e w1 ⟨rfl,hB1⟩;have hBw:=bcl (w:=w) (by go_grown) hB1;obtain ⟨hc,hg⟩:=qx hB1;have hz:=hB1.size;(try simp at hz);have hz2:w.heap.size < w1.heap.size:=(by omega);(try have hz5:w.heap.size+1 < w1.heap.size:=(by omega));(try have hz6:w.heap.size+1+1 < w1.heap.size:=(by omega))) | (go_at_call 42;refine (hop _ (by go_grown)).mono ?_;rintro e w2 ⟨rfl,hB2⟩;have hBx:=bcl (w:=w) (by go_grown) hB2;obtain ⟨hc2,hg2⟩:=qx hB2;have hz3:=hB2.size;(try simp at hz3);have hz4:w.heap.size < w2.heap.size:=(by omega);(try have hz7:w.heap.size+1 < w2.heap.size:=(by omega));(try have hz8:w.heap.size+1+1 < w2.heap.size:=(by omega))))
  all_goals
   go_wp2_with fail
   go_meet
   exact ⟨_,by go_cell,by go_cell,by go_cell,by go_cell,(by first | omega | (simp;done) | (simp;omega)),rfl,rfl,(by go_grown),⟨⟨by go_cell,by go_cell,by go_cell,by go_cell,by go_cell⟩,⟨by go_cell,by go_cell,by go_cell,by go_cell,by go_cell⟩,⟨by go_cell,by go_cell,by go_cell,by go_cell,by go_cell⟩,by first | omega | (simp;done) | (simp;omega)⟩⟩
end Go.Proofs.Tryz
