/-
  Lemmas about the program and the machine (Q55 to Q55), upon which the last text of this claim rests; no condition.
-/
import Derived.Test.YtjkenojgabamiaaGreatDoorB11
set_option linter.unusedSimpArgs false
set_option linter.unusedVariables false
namespace Go.Proofs.Tryz
open Go Go.Load Go.LoadR Go.RowKit
theorem ZT (L:List Int) (vs:Array Value) (n:Nat) (hn:L.length=n) (hl:n≤100) (hv:vs.toList=L.flatMap encI) (a:Option Addr) (c:Nat) (hc:n≤c) (w:World) (hr:qg w 1 encI a L) :
 Calls qj 11 #[.slice a n c,.slice (some ⟨w.heap.size,0,none⟩) n n] (w.alloc (Obj.cells vs 3)) fun e w'=>e=.returned (.bool true)∧Below w.heap.size w w':=by
 subst hn
 have hB:=(Below.refl w.heap.size w).alloc (Nat.le_refl _) (Obj.cells vs 3)
 have h2:qg (w.alloc (Obj.cells vs 3)) 1 encI (some ⟨w.heap.size,0,none⟩) L:=yB (k:=1) (enc:=encI) (fun _=>rfl) L w vs 3 hv _ rfl
 refine (xq a (some ⟨w.heap.size,0,none⟩) c L.length L L _ (hr.keep hB) h2 hl hl hc (Nat.le_refl _)).mono ?_
 rintro e w' ⟨rfl,hB1⟩
 exact ⟨by simp,bcl hB hB1⟩
set_option maxHeartbeats 4000000 in
set_option maxRecDepth 100000 in
theorem jT (w:World) (hG:Globs w):Calls qj 8 #[] w fun e w'=>e=.returned (.bool true)∧Below w.heap.size w w':=by
 have HG:=Lib.hid hG
 clear hG
 go_enter (sf 8 f8),ntmps8
 go_upto_region 1 with fail
 have hex:=qam w
 go_upto_region 2 with (go_at_call 26;(with_reducible refine hex.mono ?_);intro e w0 hP;obtain ⟨hB0,s,g,he,hD0⟩:=hP;have hdv:dv (exD s g)=.agg #[.slice (some ⟨s,0,none⟩) 3 3,.slice (some ⟨g,0,none⟩) 3 3,.slice (some ⟨g+6,0,none⟩) 2 2,.slice none 0 0,.slice (some ⟨g+7,0,none⟩) 4 4]:=rfl;rw [hdv] at he;subst he;have HD:=Lib.hid (And.intro hB0 (And.intro hD0 hdv));clear hB0 hD0 hdv)
 clear hex
 have hbw:w.heap.size≤w0.heap.size:=HD.out.1.size
 have hG0:∀W,Below w0.heap.size w0 W→Globs W:=fun W hB=>HG.out.keep (bcl HD.out.1 hB)
 have hD0:∀W,Below w0.heap.size w0 W→DayAt W (exD s g):=fun W hB=>HD.out.2.1.keep hB
 have hpl:=fun W (hB:Below w0.heap.size w0 W) a (hr:qg W 1 encI a [1,1,1])=>x_play (hD0 W hB) (hG0 W hB) a hr
 have hhist:=fun W (hB:Below w0.heap.size w0 W)=>x_hist (hD0 W hB) (hG0 W hB)
 have hgoes:=fun W (hB:Below w0.heap.size w0 W)=>x_goes (hD0 W hB) (hG0 W hB)
 have href2:=fun W (hB:Below w0.heap.size w0 W)=>x_ref2 (hD0 W hB) (hG0 W hB)
 have href3:=fun W (hB:Below w0.heap.size w0 W)=>x_ref3 (hD0 W hB) (hG0 W hB)
 have hlost:=fun W (hB:Below w0.heap.size w0 W)=>x_lost (hD0 W hB) (hG0 W hB)
 have hfree:=fun W (hB:Below w0.heap.size w0 W)=>x_free (hD0 W hB) (hG0 W hB)
 have hask:=fun W (hB:Below w0.heap.size w0 W)=>x_ask (hD0 W hB) (hG0 W hB)
 have hmore:=fun W (hB:Below w0.heap.size w0 W)=>x_more (hD0 W hB) (hG0 W hB)
 have hext:=fun W (hB:Below w0.heap.size w0 W)=>x_ext (hD0 W hB) (hG0 W hB)
 have hsee:=fun W (hB:Below w0.heap.size w0 W)=>x_see (hD0 W hB) (hG0 W hB)
 simp only [HD.out.2.2] at hpl hhist hgoes href2 href3 hlost hfree hask hmore hext hsee
 have HG0:=Lib.hid hG0
 clear hG0 hD0
 have Hpl:=Lib.hid hpl
 have Hhist:=Lib.hid hhist
 have Hgoes:=Lib.hid hgoes
 have Href2:=Lib.hid href2
 have Href3:=Lib.hid href3
 have Hlost:=Lib.hid hlost
 have Hfree:=Lib.hid hfree
 have Hask:=Lib.hid hask
 have Hmore:=Lib.hid hmore
 have Hext:=Lib.hid hext
 have Hsee:=Lib.hid hsee
 clear hpl hhist hgoes href2 href3 hlost hfree hask hmore hext hsee
 obtain ⟨W,hW⟩:∃W,w0.alloc (Obj.cells #[.slice (some ⟨s,0,none⟩) 3 3,.slice (some ⟨g,0,none⟩) 3 3,.slice (some ⟨g+6,0,none⟩) 2 2,.slice none 0 0,.slice (some ⟨g+7,0,none⟩) 4 4] 28)=W:=⟨_,rfl⟩
 have hI0:Below w0.heap.size w0 W:=by subst hW;go_grown
 have k0:W.cell? ⟨w0.heap.size,0,none⟩=some (.slice (some ⟨s,0,none⟩) 3 3):=by subst hW;go_cell
 have k1:W.cell? ⟨w0.heap.size,1,none⟩=some (.slice (some ⟨g,0,none⟩) 3 3):=by subst hW;go_cell
 have k2:W.cell? ⟨w0.heap.size,2,none⟩=some (.slice (some ⟨g+6,0,none⟩) 2 2):=by subst hW;go_cell
 have k3:W.cell? ⟨w0.heap.size,3,none⟩=some (.slice none 0 0):=by subst hW;go_cell
 have k4:W.cell? ⟨w0.heap.size,4,none⟩=some (.slice (some ⟨g+7,0,none⟩) 4 4):=by subst hW;go_cell
 rw [hW]
 clear hW
 obtain ⟨W1,hW1⟩:∃W1,W.alloc (Obj.cells #[.int .i64 1,.int .i64 1,.int .i64 1] 3)=W1:=⟨_,rfl⟩
 have hr1:qg W1 1 encI (some ⟨W.heap.size,0,none⟩) [1,1,1]:=by subst hW1;exact yB (k:=1) (enc:=encI) (fun _=>rfl) [1,1,1] W _ _ rfl _ rfl
 have hB9:Below W.heap.size W W1:=by subst hW1;go_grown
 have hI1:=bcl hI0 hB9
 have hcl:=Hpl.out W1 hI1 _ hr1
 go_upto_region 3 with (go_at_call 27;(with_reducible refine hcl.mono ?_);intro e V hP;obtain ⟨hB1,a1,d1,he,hd1,hq1⟩:=hP;subst he)
 clear hcl hr1 hW1
 have hB1:=bcl hB9 hB1
 have hI0:=bcl hI0 hB1
 have k0:=qb _ hB1 k0
 have k1:=qb _ hB1 k1
 have k2:=qb _ hB1 k2
 have k3:=qb _ hB1 k3
 have k4:=qb _ hB1 k4
 have HQ:=Lib.hid (And.intro hd1 hq1)
 clear hd1 hq1 hI1 hB9 hB1
 have hcl:=Hhist.out _ hI0
 go_upto_region 4 with (go_at_call 24;(with_reducible refine hcl.mono ?_);rintro e V3 ⟨rfl,hB1⟩)
 clear hcl
 have hI0:=bcl hI0 hB1
 have k0:=qb _ hB1 k0
 have k1:=qb _ hB1 k1
 have k2:=qb _ hB1 k2
 have k3:=qb _ hB1 k3
 have k4:=qb _ hB1 k4
 have hq1:=HQ.out.2.keep hB1
 have HQ:=Lib.hid (And.intro HQ.out.1 hq1)
 clear hq1 hB1
 have hcl:=Hgoes.out _ hI0
 go_upto_region 5 with (go_at_call 9;(with_reducible refine hcl.mono ?_);intro e V4 hP;obtain ⟨hB1,a2,d2,he,hd2,hq2⟩:=hP;subst he)
 clear hcl
 have hI0:=bcl hI0 hB1
 have k0:=qb _ hB1 k0
 have k1:=qb _ hB1 k1
 have k2:=qb _ hB1 k2
 have k3:=qb _ hB1 k3
 have k4:=qb _ hB1 k4
 have HQ:=Lib.hid (And.intro HQ.out.1 (And.intro (HQ.out.2.keep hB1) (And.intro hd2 hq2)))
 clear hd2 hq2 hB1
 have hcl:=Href2.out _ hI0
 go_upto_region 6 with (go_at_call 12;(with_reducible refine hcl.mono ?_);rintro e V5 ⟨rfl,hB1⟩)
 clear hcl
 have hI0:=bcl hI0 hB1
 have k0:=qb _ hB1 k0
 have k1:=qb _ hB1 k1
 have k2:=qb _ hB1 k2
 have k3:=qb _ hB1 k3
 have k4:=qb _ hB1 k4
 have HQ:=Lib.hid (And.intro HQ.out.1 (And.intro (HQ.out.2.1.keep hB1) (And.intro HQ.out.2.2.1 (HQ.out.2.2.2.keep hB1))))
 clear hB1
 have hcl:=Href3.out _ hI0
 go_upto_region 7 with (go_at_call 12;(with_reducible refine hcl.mono ?_);rintro e V6 ⟨rfl,hB1⟩)
 clear hcl
 have hI0:=bcl hI0 hB1
 have k0:=qb _ hB1 k0
 have k1:=qb _ hB1 k1
 have k2:=qb _ hB1 k2
 have k3:=qb _ hB1 k3
 have k4:=qb _ hB1 k4
 have HQ:=Lib.hid (And.intro HQ.out.1 (And.intro (HQ.out.2.1.keep hB1) (And.intro HQ.out.2.2.1 (HQ.out.2.2.2.keep hB1))))
 clear hB1
 have hcl:=Hlost.out _ hI0
 go_upto_region 8 with (go_at_call 16;(with_reducible refine hcl.mono ?_);rintro e V7 ⟨rfl,hB1⟩)
 clear hcl
 obtain ⟨U7,hU7⟩:∃U,V7.alloc (Obj.cells #[.int .i64 0,.int .i64 1] 40)=U:=⟨_,rfl⟩
 have hB1:Below _ _ U7:=bcl hB1 (show Below V7.heap.size V7 U7 by subst hU7;go_grown)
 have l1:U7.cell? ⟨V7.heap.size,0,none⟩=some (.int .i64 0):=by subst hU7;go_cell
 have m1:U7.cell? ⟨V7.heap.size,1,none⟩=some (.int .i64 1):=by subst hU7;go_cell
 rw [hU7]
 clear hU7
 have hI0:=bcl hI0 hB1
 have k0:=qb _ hB1 k0
 have k1:=qb _ hB1 k1
 have k2:=qb _ hB1 k2
 have k3:=qb _ hB1 k3
 have k4:=qb _ hB1 k4
 have HQ:=Lib.hid (And.intro HQ.out.1 (And.intro (HQ.out.2.1.keep hB1) (And.intro HQ.out.2.2.1 (HQ.out.2.2.2.keep hB1))))
 clear hB1
 have hcl:=Hfree.out _ hI0
 go_upto_region 9 with (go_at_call 14;(with_reducible refine hcl.mono ?_);rintro e V8 ⟨rfl,hB1⟩)
 clear hcl
 obtain ⟨U8,hU8⟩:∃U,V8.alloc (Obj.cells #[.int .i64 0,.int .i64 0] 40)=U:=⟨_,rfl⟩
 have hB1:Below _ _ U8:=bcl hB1 (show Below V8.heap.size V8 U8 by subst hU8;go_grown)
 have l2:U8.cell? ⟨V8.heap.size,0,none⟩=some (.int .i64 0):=by subst hU8;go_cell
 have m2:U8.cell? ⟨V8.heap.size,1,none⟩=some (.int .i64 0):=by subst hU8;go_cell
 rw [hU8]
 clear hU8
 have hI0:=bcl hI0 hB1
 have k0:=qb _ hB1 k0
 have k1:=qb _ hB1 k1
 have k2:=qb _ hB1 k2
 have k3:=qb _ hB1 k3
 have k4:=qb _ hB1 k4
 have l1:=qb _ hB1 l1
 have m1:=qb _ hB1 m1
 have HQ:=Lib.hid (And.intro HQ.out.1 (And.intro (HQ.out.2.1.keep hB1) (And.intro HQ.out.2.2.1 (HQ.out.2.2.2.keep hB1))))
 clear hB1
 have hcl:=Hask.out _ hI0
 go_upto_region 10 with (go_at_call 28;(with_reducible refine hcl.mono ?_);rintro e V9 ⟨rfl,hB1⟩)
 clear hcl
 have hI0:=bcl hI0 hB1
 have k0:=qb _ hB1 k0
 have k1:=qb _ hB1 k1
 have k2:=qb _ hB1 k2
 have k3:=qb _ hB1 k3
 have k4:=qb _ hB1 k4
 have l1:=qb _ hB1 l1
 have m1:=qb _ hB1 m1
 have l2:=qb _ hB1 l2
 have m2:=qb _ hB1 m2
 have HQ:=Lib.hid (And.intro HQ.out.1 (And.intro (HQ.out.2.1.keep hB1) (And.intro HQ.out.2.2.1 (HQ.out.2.2.2.keep hB1))))
 clear hB1
 have hcl:=Hsee.out _ hI0
 go_upto_region 11 with (go_at_call 29;(with_reducible refine hcl.mono ?_);intro e V10 hP;obtain ⟨hB1,D2,hs1,hs2,hs3,he⟩:=hP;have hdz:dv D2=.agg #[.slice D2.ta D2.ts.length D2.tc,.slice D2.ga D2.gs.length D2.gc,.slice D2.oa D2.os.length D2.oc,.slice D2.ha D2.hs.length D2.hc,.slice D2.ca D2.cs.length D2.cc]:=rfl;rw [hdz] at he;subst he;have HS:=Lib.hid (And.intro hs1 (And.intro hs2 (And.intro hs3 hdz)));clear hs1 hs2 hs3 hdz)
 clear hcl
 obtain ⟨U10,hU10⟩:∃U,V10.alloc (Obj.cells #[.slice D2.ta D2.ts.length D2.tc,.slice D2.ga D2.gs.length D2.gc,.slice D2.oa D2.os.length D2.oc,.slice D2.ha D2.hs.length D2.hc,.slice D2.ca D2.cs.length D2.cc] 28)=U:=⟨_,rfl⟩
 have hBU:Below V10.heap.size V10 U10:=by subst hU10;go_grown
 have hB1:Below _ _ U10:=bcl hB1 hBU
 have j0:U10.cell? ⟨V10.heap.size,0,none⟩=some (.slice D2.ta D2.ts.length D2.tc):=by subst hU10;go_cell
 have j1:U10.cell? ⟨V10.heap.size,1,none⟩=some (.slice D2.ga D2.gs.length D2.gc):=by subst hU10;go_cell
 have j2:U10.cell? ⟨V10.heap.size,2,none⟩=some (.slice D2.oa D2.os.length D2.oc):=by subst hU10;go_cell
 have j3:U10.cell? ⟨V10.heap.size,3,none⟩=some (.slice D2.ha D2.hs.length D2.hc):=by subst hU10;go_cell
 have j4:U10.cell? ⟨V10.heap.size,4,none⟩=some (.slice D2.ca D2.cs.length D2.cc):=by subst hU10;go_cell
 rw [hU10]
 clear hU10
 have hI0:=bcl hI0 hB1
 have k0:=qb _ hB1 k0
 have k1:=qb _ hB1 k1
 have k2:=qb _ hB1 k2
 have k3:=qb _ hB1 k3
 have k4:=qb _ hB1 k4
 have l1:=qb _ hB1 l1
 have m1:=qb _ hB1 m1
 have l2:=qb _ hB1 l2
 have m2:=qb _ hB1 m2
 have HQ:=Lib.hid (And.intro HQ.out.1 (And.intro (HQ.out.2.1.keep hB1) (And.intro HQ.out.2.2.1 (HQ.out.2.2.2.keep hB1))))
 clear hB1
 have hcl:=x_bec HS.out.1 HS.out.2.1 (HS.out.2.2.1.keep hBU) (HG0.out _ hI0)
 rw [HS.out.2.2.2] at hcl
 clear hBU
 go_upto_region 12 with (go_at_call 30;(with_reducible refine hcl.mono ?_);intro e V11 hP;obtain ⟨hB1,a3,d3,he,hd3,hq3⟩:=hP;subst he)
 clear hcl j0 j1 j2 j3 j4
 have hI0:=bcl hI0 hB1
 have k0:=qb _ hB1 k0
 have k1:=qb _ hB1 k1
 have k2:=qb _ hB1 k2
 have k3:=qb _ hB1 k3
 have k4:=qb _ hB1 k4
 have l1:=qb _ hB1 l1
 have m1:=qb _ hB1 m1
 have l2:=qb _ hB1 l2
 have m2:=qb _ hB1 m2
 have HQ:=Lib.hid (And.intro HQ.out.1 (And.intro (HQ.out.2.1.keep hB1) (And.intro HQ.out.2.2.1 (And.intro (HQ.out.2.2.2.keep hB1) (And.intro hd3 hq3)))))
 clear hd3 hq3 hB1
 have hcl:=Hmore.out _ hI0
 go_upto_region 13 with (go_at_call 25;(with_reducible refine hcl.mono ?_);rintro e V12 ⟨rfl,hB1⟩)
 clear hcl
 have hI0:=bcl hI0 hB1
 have k0:=qb _ hB1 k0
 have k1:=qb _ hB1 k1
 have k2:=qb _ hB1 k2
 have k3:=qb _ hB1 k3
 have k4:=qb _ hB1 k4
 have l1:=qb _ hB1 l1
 have m1:=qb _ hB1 m1
 have l2:=qb _ hB1 l2
 have m2:=qb _ hB1 m2
 have HQ:=Lib.hid (And.intro HQ.out.1 (And.intro (HQ.out.2.1.keep hB1) (And.intro HQ.out.2.2.1 (And.intro (HQ.out.2.2.2.1.keep hB1) (And.intro HQ.out.2.2.2.2.1 (HQ.out.2.2.2.2.2.keep hB1))))))
 clear hB1
 have hcl:=Hext.out _ hI0
 go_upto_region 14 with (go_at_call 31;(with_reducible refine hcl.mono ?_);intro e V13 hP;obtain ⟨hB1,a4,d4,he,hd4,hq4⟩:=hP;subst he)
 clear hcl
 have hI0:=bcl hI0 hB1
 have k0:=qb _ hB1 k0
 have k1:=qb _ hB1 k1
 have k2:=qb _ hB1 k2
 have k3:=qb _ hB1 k3
 have k4:=qb _ hB1 k4
 have l1:=qb _ hB1 l1
 have m1:=qb _ hB1 m1
 have l2:=qb _ hB1 l2
 have m2:=qb _ hB1 m2
 have hq1:=HQ.out.2.1.keep hB1
 have hq2:=HQ.out.2.2.2.1.keep hB1
 have hq3:=HQ.out.2.2.2.2.2.keep hB1
 have HN:=Lib.hid (And.intro (And.intro HQ.out.1 hq1) (And.intro (And.intro HQ.out.2.2.1 hq2) (And.intro (And.intro HQ.out.2.2.2.2.1 hq3) (And.intro hd4 hq4))))
 clear HQ hq1 hq2 hq3 hd4 hq4 hB1 k0 k1 k2 k3 k4
 go_upto_region 16 with fail
 have hto:=fun a b W=>to_any a b W
 refine wp_region_held_drew (S:=(RH4 V13 ⟨V7.heap.size,0,none⟩ ⟨V7.heap.size,1,none⟩ ⟨V8.heap.size,0,none⟩ ⟨V8.heap.size,1,none⟩ (.int .i64 0) (.int .i64 1) (.int .i64 0) (.int .i64 0))) (by kernel_rfl) (by exact RHL.drew ⟨l1,m1,l2,m2,Below.refl _ _⟩) (fun hHeld=>?_)
 (refine tk 0 ?_;try simp only [zs,Act.put])
 (refine tk 1 ?_;try simp only [zs,Act.put])
 (refine tk 2 ?_;try simp only [zs,Act.put])
 (refine tk 3 ?_;try simp only [zs,Act.put])
 (refine tk 4 ?_;try simp only [zs,Act.put])
 (refine tk 5 ?_;try simp only [zs,Act.put])
 (refine tk 6 ?_;try simp only [zs,Act.put])
 (refine tk 7 ?_;try simp only [zs,Act.put])
 (refine tk 8 ?_;try simp only [zs,Act.put])
 (refine tk 9 ?_;try simp only [zs,Act.put])
 (refine tk 10 ?_;try simp only [zs,Act.put])
 (refine tk 11 ?_;try simp only [zs,Act.put])
 refine wpAnyH_ready (rs:=[12]) (by kernel_rfl) (by simp) ?_;refine AllReadyH.cons rfl (fun K hK=>?_) AllReadyH.nil;go_simp;go_wp2_with (go_at_call 32;(with_reducible refine (hto _ _ _).mono ?_);rintro e Z1 ⟨rfl,hBZ1⟩);refine hK.out _ _ (by exact RHL.call hHeld hBZ1) (fun hHeldN=>?_);clear hK K hHeld;have hHeld:=hHeldN;clear hHeldN;try simp only [zs,Act.put]
 (refine tk 13 ?_;try simp only [zs,Act.put])
 (refine tk 14 ?_;try simp only [zs,Act.put])
 (refine tk 15 ?_;try simp only [zs,Act.put])
 (refine tk 16 ?_;try simp only [zs,Act.put])
 refine wpAnyH_ready (rs:=[17]) (by kernel_rfl) (by simp) ?_;refine AllReadyH.cons rfl (fun K hK=>?_) AllReadyH.nil;go_simp;go_wp2_with (go_at_call 32;(with_reducible refine (hto _ _ _).mono ?_);rintro e Z2 ⟨rfl,hBZ2⟩);refine hK.out _ _ (by exact RHL.call hHeld hBZ2) (fun hHeldN=>?_);clear hK K hHeld;have hHeld:=hHeldN;clear hHeldN;try simp only [zs,Act.put]
 (refine tk 18 ?_;try simp only [zs,Act.put])
 (refine tk 19 ?_;try simp only [zs,Act.put])
 (refine tk 20 ?_;try simp only [zs,Act.put])
 (refine tk 21 ?_;try simp only [zs,Act.put])
 (refine tk 22 ?_;try simp only [zs,Act.put])
 (refine tk 23 ?_;try simp only [zs,Act.put])
 (refine tk 24 ?_;try simp only [zs,Act.put])
 (refine tk 25 ?_;try simp only [zs,Act.put])
 (refine tk 26 ?_;try simp only [zs,Act.put])
 (refine tk 27 ?_;try simp only [zs,Act.put])
 (refine tk 28 ?_;try simp only [zs,Act.put])
 (refine tk 29 ?_;try simp only [zs,Act.put])
 (refine tk 30 ?_;try simp only [zs,Act.put])
 (refine tk 31 ?_;try simp only [zs,Act.put])
 (refine tk 32 ?_;try simp only [zs,Act.put])
 (refine tk 33 ?_;try simp only [zs,Act.put])
 (refine tk 34 ?_;try simp only [zs,Act.put])
 (refine tk 35 ?_;try simp only [zs,Act.put])
 (refine tk 36 ?_;try simp only [zs,Act.put])
 (refine tk 37 ?_;try simp only [zs,Act.put])
 (refine tk 38 ?_;try simp only [zs,Act.put])
 (refine tk 39 ?_;try simp only [zs,Act.put])
 refine wpAnyH_done (by kernel_rfl) ?_ _;try simp only [zs,Act.put]
 have hI2:=RHL.bel hHeld
 clear hHeld
 have hr1:=HN.out.1.2.keep hI2
 have hr2:=HN.out.2.1.2.keep hI2
 have hr3:=HN.out.2.2.1.2.keep hI2
 have hr4:=HN.out.2.2.2.2.keep hI2
 have C1:=Lib.hid (fun W (hB:Below Z2.heap.size Z2 W)=>ZT [0,1,-1,1] #[.int .i64 0,.int .i64 1,.int .i64 (-1),.int .i64 1] 4 rfl (by decide) rfl a1 d1 HN.out.1.1 W (hr1.keep hB))
 have C2:=Lib.hid (fun W (hB:Below Z2.heap.size Z2 W)=>ZT [-1,0] #[.int .i64 (-1),.int .i64 0] 2 rfl (by decide) rfl a2 d2 HN.out.2.1.1 W (hr2.keep hB))
 have C3:=Lib.hid (fun W (hB:Below Z2.heap.size Z2 W)=>ZT [0] #[.int .i64 0] 1 rfl (by decide) rfl a3 d3 HN.out.2.2.1.1 W (hr3.keep hB))
 have C4:=Lib.hid (fun W (hB:Below Z2.heap.size Z2 W)=>ZT [0,1,0] #[.int .i64 0,.int .i64 1,.int .i64 0] 3 rfl (by decide) rfl a4 d4 HN.out.2.2.2.1 W (hr4.keep hB))
 have hb0:Below Z2.heap.size Z2 Z2:=Below.refl _ _
 have HI:=Lib.hid (bcl HD.out.1 (Below.call hI0 hI2 (Nat.le_refl _)))
 clear hr1 hr2 hr3 hr4 hI0 hI2 l1 m1 l2 m2 hto
 go_wp2_with (first | (go_at_call 11;(with_reducible refine (C1.out _ hb0).mono ?_);rintro e Y1 ⟨rfl,hY1⟩;have hb1:=bcl hb0 hY1) | (go_at_call 11;(with_reducible refine (C2.out _ hb1).mono ?_);rintro e Y2 ⟨rfl,hY2⟩;have hb2:=bcl hb1 hY2) | (go_at_call 11;(with_reducible refine (C3.out _ hb2).mono ?_);rintro e Y3 ⟨rfl,hY3⟩;have hb3:=bcl hb2 hY3) | (go_at_call 11;(with_reducible refine (C4.out _ hb3).mono ?_);rintro e Y4 ⟨rfl,hY4⟩;have hb4:=bcl hb3 hY4))
 go_ret
 exact ⟨rfl,bcl HI.out hb4⟩
end Go.Proofs.Tryz
