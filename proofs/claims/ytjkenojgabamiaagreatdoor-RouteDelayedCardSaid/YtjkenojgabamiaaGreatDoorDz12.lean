/-
  Lemmas about the program and the machine (Q55 to D14), upon which the last text of this claim rests; no condition.
-/
import Derived.Test.YtjkenojgabamiaaGreatDoorDz11
set_option linter.unusedSimpArgs false
set_option linter.unusedVariables false
namespace Go.Proofs.Tryz
open Go Go.Load Go.LoadR Go.RowKit
theorem ZC (L:List Int) (vs:Array Value) (n:Nat) (hn:L.length=n) (hl:n≤100) (hv:vs.toList=L.flatMap encI) (a:Option Addr) (c:Nat) (hc:n≤c) (w:World) (hr:qh w 1 encI a L) :
 Calls qj 11 #[.slice a n c,.slice (some ⟨w.heap.size,0,none⟩) n n] (w.alloc (Obj.cells vs 3)) fun e w'=>e=.returned (.bool true)∧Below w.heap.size w w':=by
 subst hn
 have hB:=(Below.refl w.heap.size w).alloc (Nat.le_refl _) (Obj.cells vs 3)
 have h2:qh (w.alloc (Obj.cells vs 3)) 1 encI (some ⟨w.heap.size,0,none⟩) L:=yo (k:=1) (enc:=encI) (fun _=>rfl) L w vs 3 hv _ rfl
 refine (Ze a (some ⟨w.heap.size,0,none⟩) c L.length L L _ (hr.keep hB) h2 hl hl hc (Nat.le_refl _)).mono ?_
 rintro e w' ⟨rfl,hB1⟩
 exact ⟨by simp,bcl hB hB1⟩
set_option maxHeartbeats 4000000 in
set_option maxRecDepth 100000 in
theorem qcn (w:World) (hG:Globs w):Calls qj 8 #[] w fun e w'=>e=.returned (.bool true)∧Below w.heap.size w w':=by
 have HG:=Lib.hid hG
 clear hG
 go_enter (sf 8 f8),ntmps8
 go_upto_region 1 with fail
 have hex:=JH w
 go_upto_region 2 with (go_at_call 26;(with_reducible refine hex.mono ?_);intro e w0 hP;obtain ⟨hB0,s,g,he,hD0⟩:=hP;have hdv:dv (exD s g)=.agg #[.slice (some ⟨s,0,none⟩) 3 3,.slice (some ⟨g,0,none⟩) 3 3,.slice (some ⟨g+6,0,none⟩) 2 2,.slice none 0 0,.slice (some ⟨g+7,0,none⟩) 4 4]:=rfl;rw [hdv] at he;subst he;have HD:=Lib.hid (And.intro hB0 (And.intro hD0 hdv));clear hB0 hD0 hdv)
 clear hex
 have hbw:w.heap.size≤w0.heap.size:=HD.out.1.size
 have hG0:∀W,Below w0.heap.size w0 W→Globs W:=fun W hB=>HG.out.keep (bcl HD.out.1 hB)
 have hD0:∀W,Below w0.heap.size w0 W→DayAt W (exD s g):=fun W hB=>HD.out.2.1.keep hB
 have hpl:=fun W (hB:Below w0.heap.size w0 W) a (hr:qh W 1 encI a [1,1,1])=>x_play (hD0 W hB) (hG0 W hB) a hr
 have hhist:=fun W (hB:Below w0.heap.size w0 W)=>x_hist (hD0 W hB) (hG0 W hB)
 have hgoes:=fun W (hB:Below w0.heap.size w0 W)=>x_goes (hD0 W hB) (hG0 W hB)
 have href2:=fun W (hB:Below w0.heap.size w0 W)=>x_ref2 (hD0 W hB) (hG0 W hB)
 have href3:=fun W (hB:Below w0.heap.size w0 W)=>x_ref3 (hD0 W hB) (hG0 W hB)
 have hlost:=fun W (hB:Below w0.heap.size w0 W)=>x_lost (hD0 W hB) (hG0 W hB)
 have hfree:=fun W (hB:Below w0.heap.size w0 W)=>x_free (hD0 W hB) (hG0 W hB)
 have hask:=fun W (hB:Below w0.heap.size w0 W)=>x_ask (hD0 W hB) (hG0 W hB)
 have hmore:=fun W (hB:Below w0.heap.size w0 W)=>x_more (hD0 W hB) (hG0 W hB)
 have hext:=fun W (hB:Below w0.heap.size w0 W)=>x_ext (hD0 W hB) (hG0 W hB)
 have hsee:=fun W (hB:Below w0.heap.size w0 W)=>x_see (hD0 W hB) (hG0 W hB)
 simp only [HD.out.2.2] at hpl hhist hgoes href2 href3 hlost hfree hask hmore hext hsee
 have HG0:=Lib.hid hG0
 clear hG0 hD0
 have Hpl:=Lib.hid hpl
 have Hhist:=Lib.hid hhist
 have Hgoes:=Lib.hid hgoes
 have Href2:=Lib.hid href2
 have Href3:=Lib.hid href3
 have Hlost:=Lib.hid hlost
 have Hfree:=Lib.hid hfree
 have Hask:=Lib.hid hask
 have Hmore:=Lib.hid hmore
 have Hext:=Lib.hid hext
 have Hsee:=Lib.hid hsee
 clear hpl hhist hgoes href2 href3 hlost hfree hask hmore hext hsee
 obtain ⟨W,hW⟩:∃W,w0.alloc (Obj.cells #[.slice (some ⟨s,0,none⟩) 3 3,.slice (some ⟨g,0,none⟩) 3 3,.slice (some ⟨g+6,0,none⟩) 2 2,.slice none 0 0,.slice (some ⟨g+7,0,none⟩) 4 4] 28)=W:=⟨_,rfl⟩
 have hI0:Below w0.heap.size w0 W:=by subst hW;go_grown
 have k0:W.cell? ⟨w0.heap.size,0,none⟩=some (.slice (some ⟨s,0,none⟩) 3 3):=by subst hW;go_cell
 have k1:W.cell? ⟨w0.heap.size,1,none⟩=some (.slice (some ⟨g,0,none⟩) 3 3):=by subst hW;go_cell
 have k2:W.cell? ⟨w0.heap.size,2,none⟩=some (.slice (some ⟨g+6,0,none⟩) 2 2):=by subst hW;go_cell
 have k3:W.cell? ⟨w0.heap.size,3,none⟩=some (.slice none 0 0):=by subst hW;go_cell
 have k4:W.cell? ⟨w0.heap.size,4,none⟩=some (.slice (some ⟨g+7,0,none⟩) 4 4):=by subst hW;go_cell
 rw [hW]
 clear hW
 obtain ⟨W1,hW1⟩:∃W1,W.alloc (Obj.cells #[.int .i64 1,.int .i64 1,.int .i64 1] 3)=W1:=⟨_,rfl⟩
 have hr1:qh W1 1 encI (some ⟨W.heap.size,0,none⟩) [1,1,1]:=by subst hW1;exact yo (k:=1) (enc:=encI) (fun _=>rfl) [1,1,1] W _ _ rfl _ rfl
 have hB9:Below W.heap.size W W1:=by subst hW1;go_grown
 have hI1:=bcl hI0 hB9
 have hcl:=Hpl.out W1 hI1 _ hr1
 go_upto_region 3 with (go_at_call 27;(with_reducible refine hcl.mono ?_);intro e V hP;obtain ⟨hB1,a1,d1,he,hd1,hq1⟩:=hP;subst he)
 clear hcl hr1 hW1
 have hB1:=bcl hB9 hB1
 have hI0:=bcl hI0 hB1
 have k0:=qb _ hB1 k0
 have k1:=qb _ hB1 k1
 have k2:=qb _ hB1 k2
 have k3:=qb _ hB1 k3
 have k4:=qb _ hB1 k4
 have HQ:=Lib.hid (And.intro hd1 hq1)
 clear hd1 hq1 hI1 hB9 hB1
 have hcl:=Hhist.out _ hI0
 go_upto_region 4 with (go_at_call 24;(with_reducible refine hcl.mono ?_);rintro e V3 ⟨rfl,hB1⟩)
 clear hcl
 have hI0:=bcl hI0 hB1
 have k0:=qb _ hB1 k0
 have k1:=qb _ hB1 k1
 have k2:=qb _ hB1 k2
 have k3:=qb _ hB1 k3
 have k4:=qb _ hB1 k4
 have hq1:=HQ.out.2.keep hB1
 have HQ:=Lib.hid (And.intro HQ.out.1 hq1)
 clear hq1 hB1
 have hcl:=Hgoes.out _ hI0
 go_upto_region 5 with (go_at_call 9;(with_reducible refine hcl.mono ?_);intro e V4 hP;obtain ⟨hB1,a2,d2,he,hd2,hq2⟩:=hP;subst he)
 clear hcl
 have hI0:=bcl hI0 hB1
 have k0:=qb _ hB1 k0
 have k1:=qb _ hB1 k1
 have k2:=qb _ hB1 k2
 have k3:=qb _ hB1 k3
 have k4:=qb _ hB1 k4
 have HQ:=Lib.hid (And.intro HQ.out.1 (And.intro (HQ.out.2.keep hB1) (And.intro hd2 hq2)))
 clear hd2 hq2 hB1
 have hcl:=Href2.out _ hI0
 go_upto_region 6 with (go_at_call 12;(with_reducible refine hcl.mono ?_);rintro e V5 ⟨rfl,hB1⟩)
 clear hcl
 have hI0:=bcl hI0 hB1
 have k0:=qb _ hB1 k0
 have k1:=qb _ hB1 k1
 have k2:=qb _ hB1 k2
 have k3:=qb _ hB1 k3
 have k4:=qb _ hB1 k4
 have HQ:=Lib.hid (And.intro HQ.out.1 (And.intro (HQ.out.2.1.keep hB1) (And.intro HQ.out.2.2.1 (HQ.out.2.2.2.keep hB1))))
 clear hB1
 have hcl:=Href3.out _ hI0
 go_upto_region 7 with (go_at_call 12;(with_reducible refine hcl.mono ?_);rintro e V6 ⟨rfl,hB1⟩)
 clear hcl
 have hI0:=bcl hI0 hB1
 have k0:=qb _ hB1 k0
 have k1:=qb _ hB1 k1
 have k2:=qb _ hB1 k2
 have k3:=qb _ hB1 k3
 have k4:=qb _ hB1 k4
 have HQ:=Lib.hid (And.intro HQ.out.1 (And.intro (HQ.out.2.1.keep hB1) (And.intro HQ.out.2.2.1 (HQ.out.2.2.2.keep hB1))))
 clear hB1
 have hcl:=Hlost.out _ hI0
 go_upto_region 8 with (go_at_call 16;(with_reducible refine hcl.mono ?_);rintro e V7 ⟨rfl,hB1⟩)
 clear hcl
 obtain ⟨U7,hU7⟩:∃U,V7.alloc (Obj.cells #[.int .i64 0,.int .i64 1] 40)=U:=⟨_,rfl⟩
 have hB1:Below _ _ U7:=bcl hB1 (show Below V7.heap.size V7 U7 by subst hU7;go_grown)
 have l1:U7.cell? ⟨V7.heap.size,0,none⟩=some (.int .i64 0):=by subst hU7;go_cell
 have m1:U7.cell? ⟨V7.heap.size,1,none⟩=some (.int .i64 1):=by subst hU7;go_cell
 rw [hU7]
 clear hU7
 have hI0:=bcl hI0 hB1
 have k0:=qb _ hB1 k0
 have k1:=qb _ hB1 k1
 have k2:=qb _ hB1 k2
 have k3:=qb _ hB1 k3
 have k4:=qb _ hB1 k4
 have HQ:=Lib.hid (And.intro HQ.out.1 (And.intro (HQ.out.2.1.keep hB1) (And.intro HQ.out.2.2.1 (HQ.out.2.2.2.keep hB1))))
 clear hB1
 have hcl:=Hfree.out _ hI0
 go_upto_region 9 with (go_at_call 14;(with_reducible refine hcl.mono ?_);rintro e V8 ⟨rfl,hB1⟩)
 clear hcl
 obtain ⟨U8,hU8⟩:∃U,V8.alloc (Obj.cells #[.int .i64 0,.int .i64 0] 40)=U:=⟨_,rfl⟩
 have hB1:Below _ _ U8:=bcl hB1 (show Below V8.heap.size V8 U8 by subst hU8;go_grown)
 have l2:U8.cell? ⟨V8.heap.size,0,none⟩=some (.int .i64 0):=by subst hU8;go_cell
 have m2:U8.cell? ⟨V8.heap.size,1,none⟩=some (.int .i64 0):=by subst hU8;go_cell
 rw [hU8]
 clear hU8
 have hI0:=bcl hI0 hB1
 have k0:=qb _ hB1 k0
 have k1:=qb _ hB1 k1
 have k2:=qb _ hB1 k2
 have k3:=qb _ hB1 k3
 have k4:=qb _ hB1 k4
 have l1:=qb _ hB1 l1
 have m1:=qb _ hB1 m1
 have HQ:=Lib.hid (And.intro HQ.out.1 (And.intro (HQ.out.2.1.keep hB1) (And.intro HQ.out.2.2.1 (HQ.out.2.2.2.keep hB1))))
 clear hB1
 have hcl:=Hask.out _ hI0
 go_upto_region 10 with (go_at_call 28;(with_reducible refine hcl.mono ?_);rintro e V9 ⟨rfl,hB1⟩)
 clear hcl
 have hI0:=bcl hI0 hB1
 have k0:=qb _ hB1 k0
 have k1:=qb _ hB1 k1
 have k2:=qb _ hB1 k2
 have k3:=qb _ hB1 k3
 have k4:=qb _ hB1 k4
 have l1:=qb _ hB1 l1
 have m1:=qb _ hB1 m1
 have l2:=qb _ hB1 l2
 have m2:=qb _ hB1 m2
 have HQ:=Lib.hid (And.intro HQ.out.1 (And.intro (HQ.out.2.1.keep hB1) (And.intro HQ.out.2.2.1 (HQ.out.2.2.2.keep hB1))))
 clear hB1
 have hcl:=Hsee.out _ hI0
 go_upto_region 11 with (go_at_call 29;(with_reducible refine hcl.mono ?_);intro e V10 hP;obtain ⟨hB1,D2,hs1,hs2,hs3,he⟩:=hP;have hdz:dv D2=.agg #[.slice D2.ta D2.ts.length D2.tc,.slice D2.ga D2.gs.length D2.gc,.slice D2.oa D2.os.length D2.oc,.slice D2.ha D2.hs.length D2.hc,.slice D2.ca D2.cs.length D2.cc]:=rfl;rw [hdz] at he;subst he;have HS:=Lib.hid (And.intro hs1 (And.intro hs2 (And.intro hs3 hdz)));clear hs1 hs2 hs3 hdz)
 clear hcl
 obtain ⟨U10,hU10⟩:∃U,V10.alloc (Obj.cells #[.slice D2.ta D2.ts.length D2.tc,.slice D2.ga D2.gs.length D2.gc,.slice D2.oa D2.os.length D2.oc,.slice D2.ha D2.hs.length D2.hc,.slice D2.ca D2.cs.length D2.cc] 28)=U:=⟨_,rfl⟩
 have hBU:Below V10.heap.size V10 U10:=by subst hU10;go_grown
 have hB1:Below _ _ U10:=bcl hB1 hBU
 have j0:U10.cell? ⟨V10.heap.size,0,none⟩=some (.slice D2.ta D2.ts.length D2.tc):=by subst hU10;go_cell
 have j1:U10.cell? ⟨V10.heap.size,1,none⟩=some (.slice D2.ga D2.gs.length D2.gc):=by subst hU10;go_cell
 have j2:U10.cell? ⟨V10.heap.size,2,none⟩=some (.slice D2.oa D2.os.length D2.oc):=by subst hU10;go_cell
 have j3:U10.cell? ⟨V10.heap.size,3,none⟩=some (.slice D2.ha D2.hs.length D2.hc):=by subst hU10;go_cell
 have j4:U10.cell? ⟨V10.heap.size,4,none⟩=some (.slice D2.ca D2.cs.length D2.cc):=by subst hU10;go_cell
 rw [hU10]
 clear hU10
 have hI0:=bcl hI0 hB1
 have k0:=qb _ hB1 k0
 have k1:=qb _ hB1 k1
 have k2:=qb _ hB1 k2
 have k3:=qb _ hB1 k3
 have k4:=qb _ hB1 k4
 have l1:=qb _ hB1 l1
 have m1:=qb _ hB1 m1
 have l2:=qb _ hB1 l2
 have m2:=qb _ hB1 m2
 have HQ:=Lib.hid (And.intro HQ.out.1 (And.intro (HQ.out.2.1.keep hB1) (And.intro HQ.out.2.2.1 (HQ.out.2.2.2.keep hB1))))
 clear hB1
 have hcl:=x_bec HS.out.1 HS.out.2.1 (HS.out.2.2.1.keep hBU) (HG0.out _ hI0)
 rw [HS.out.2.2.2] at hcl
 clear hBU
 go_upto_region 12 with (go_at_call 30;(with_reducible refine hcl.mono ?_);intro e V11 hP;obtain ⟨hB1,a3,d3,he,hd3,hq3⟩:=hP;subst he)
 clear hcl j0 j1 j2 j3 j4
 have hI0:=bcl hI0 hB1
 have k0:=qb _ hB1 k0
 have k1:=qb _ hB1 k1
 have k2:=qb _ hB1 k2
 have k3:=qb _ hB1 k3
 have k4:=qb _ hB1 k4
 have l1:=qb _ hB1 l1
 have m1:=qb _ hB1 m1
 have l2:=qb _ hB1 l2
 have m2:=qb _ hB1 m2
 have HQ:=Lib.hid (And.intro HQ.out.1 (And.intro (HQ.out.2.1.keep hB1) (And.intro HQ.out.2.2.1 (And.intro (HQ.out.2.2.2.keep hB1) (And.intro hd3 hq3)))))
 clear hd3 hq3 hB1
 have hcl:=Hmore.out _ hI0
 go_upto_region 13 with (go_at_call 25;(with_reducible refine hcl.mono ?_);rintro e V12 ⟨rfl,hB1⟩)
 clear hcl
 have hI0:=bcl hI0 hB1
 have k0:=qb _ hB1 k0
 have k1:=qb _ hB1 k1
 have k2:=qb _ hB1 k2
 have k3:=qb _ hB1 k3
 have k4:=qb _ hB1 k4
 have l1:=qb _ hB1 l1
 have m1:=qb _ hB1 m1
 have l2:=qb _ hB1 l2
 have m2:=qb _ hB1 m2
 have HQ:=Lib.hid (And.intro HQ.out.1 (And.intro (HQ.out.2.1.keep hB1) (And.intro HQ.out.2.2.1 (And.intro (HQ.out.2.2.2.1.keep hB1) (And.intro HQ.out.2.2.2.2.1 (HQ.out.2.2.2.2.2.keep hB1))))))
 clear hB1
 have hcl:=Hext.out _ hI0
 go_upto_region 14 with (go_at_call 31;(with_reducible refine hcl.mono ?_);intro e V13 hP;obtain ⟨hB1,a4,d4,he,hd4,hq4⟩:=hP;subst he)
 clear hcl
 have hI0:=bcl hI0 hB1
 have k0:=qb _ hB1 k0
 have k1:=qb _ hB1 k1
 have k2:=qb _ hB1 k2
 have k3:=qb _ hB1 k3
 have k4:=qb _ hB1 k4
 have l1:=qb _ hB1 l1
 have m1:=qb _ hB1 m1
 have l2:=qb _ hB1 l2
 have m2:=qb _ hB1 m2
 have hq1:=HQ.out.2.1.keep hB1
 have hq2:=HQ.out.2.2.2.1.keep hB1
 have hq3:=HQ.out.2.2.2.2.2.keep hB1
 have HN:=Lib.hid (And.intro (And.intro HQ.out.1 hq1) (And.intro (And.intro HQ.out.2.2.1 hq2) (And.intro (And.intro HQ.out.2.2.2.2.1 hq3) (And.intro hd4 hq4))))
 clear HQ hq1 hq2 hq3 hd4 hq4 hB1 k0 k1 k2 k3 k4
 go_upto_region 16 with fail
 have hto:=fun a b W=>to_any a b W
 refine wp_region_held_drew (S:=(RH4 V13 ⟨V7.heap.size,0,none⟩ ⟨V7.heap.size,1,none⟩ ⟨V8.heap.size,0,none⟩ ⟨V8.heap.size,1,none⟩ (.int .i64 0) (.int .i64 1) (.int .i64 0) (.int .i64 0))) (by kernel_rfl) (by exact RHL.drew ⟨l1,m1,l2,m2,Below.refl _ _⟩) (fun hHeld=>?_)
 (refine tk 0 ?_;try simp only [zs,Act.put])
 (refine tk 1 ?_;try simp only [zs,Act.put])
 (refine tk 2 ?_;try simp only [zs,Act.put])
 (refine tk 3 ?_;try simp only [zs,Act.put])
 (refine tk 4 ?_;try simp only [zs,Act.put])
 (refine tk 5 ?_;try simp only [zs,Act.put])
 (refine tk 6 ?_;try simp only [zs,Act.put])
 (refine tk 7 ?_;try simp only [zs,Act.put])
 (refine tk 8 ?_;try simp only [zs,Act.put])
 (refine tk 9 ?_;try simp only [zs,Act.put])
 (refine tk 10 ?_;try simp only [zs,Act.put])
 (refine tk 11 ?_;try simp only [zs,Act.put])
 refine wpAnyH_ready (rs:=[12]) (by kernel_rfl) (by simp) ?_;refine AllReadyH.cons rfl (fun K hK=>?_) AllReadyH.nil;go_simp;go_wp2_with (go_at_call 32;(with_reducible refine (hto _ _ _).mono ?_);rintro e Z1 ⟨rfl,hBZ1⟩);refine hK.out _ _ (by exact RHL.call hHeld hBZ1) (fun hHeldN=>?_);clear hK K hHeld;have hHeld:=hHeldN;clear hHeldN;try simp only [zs,Act.put]
 (refine tk 13 ?_;try simp only [zs,Act.put])
 (refine tk 14 ?_;try simp only [zs,Act.put])
 (refine tk 15 ?_;try simp only [zs,Act.put])
 (refine tk 16 ?_;try simp only [zs,Act.put])
 refine wpAnyH_ready (rs:=[17]) (by kernel_rfl) (by simp) ?_;refine AllReadyH.cons rfl (fun K hK=>?_) AllReadyH.nil;go_simp;go_wp2_with (go_at_call 32;(with_reducible refine (hto _ _ _).mono ?_);rintro e Z2 ⟨rfl,hBZ2⟩);refine hK.out _ _ (by exact RHL.call hHeld hBZ2) (fun hHeldN=>?_);clear hK K hHeld;have hHeld:=hHeldN;clear hHeldN;try simp only [zs,Act.put]
 (refine tk 18 ?_;try simp only [zs,Act.put])
 (refine tk 19 ?_;try simp only [zs,Act.put])
 (refine tk 20 ?_;try simp only [zs,Act.put])
 (refine tk 21 ?_;try simp only [zs,Act.put])
 (refine tk 22 ?_;try simp only [zs,Act.put])
 (refine tk 23 ?_;try simp only [zs,Act.put])
 (refine tk 24 ?_;try simp only [zs,Act.put])
 (refine tk 25 ?_;try simp only [zs,Act.put])
 (refine tk 26 ?_;try simp only [zs,Act.put])
 (refine tk 27 ?_;try simp only [zs,Act.put])
 (refine tk 28 ?_;try simp only [zs,Act.put])
 (refine tk 29 ?_;try simp only [zs,Act.put])
 (refine tk 30 ?_;try simp only [zs,Act.put])
 (refine tk 31 ?_;try simp only [zs,Act.put])
 (refine tk 32 ?_;try simp only [zs,Act.put])
 (refine tk 33 ?_;try simp only [zs,Act.put])
 (refine tk 34 ?_;try simp only [zs,Act.put])
 (refine tk 35 ?_;try simp only [zs,Act.put])
 (refine tk 36 ?_;try simp only [zs,Act.put])
 (refine tk 37 ?_;try simp only [zs,Act.put])
 (refine tk 38 ?_;try simp only [zs,Act.put])
 (refine tk 39 ?_;try simp only [zs,Act.put])
 refine wpAnyH_done (by kernel_rfl) ?_ _;try simp only [zs,Act.put]
 have hI2:=RHL.bel hHeld
 clear hHeld
 have hr1:=HN.out.1.2.keep hI2
 have hr2:=HN.out.2.1.2.keep hI2
 have hr3:=HN.out.2.2.1.2.keep hI2
 have hr4:=HN.out.2.2.2.2.keep hI2
 have C1:=Lib.hid (fun W (hB:Below Z2.heap.size Z2 W)=>ZC [0,1,-1,1] #[.int .i64 0,.int .i64 1,.int .i64 (-1),.int .i64 1] 4 rfl (by decide) rfl a1 d1 HN.out.1.1 W (hr1.keep hB))
 have C2:=Lib.hid (fun W (hB:Below Z2.heap.size Z2 W)=>ZC [-1,0] #[.int .i64 (-1),.int .i64 0] 2 rfl (by decide) rfl a2 d2 HN.out.2.1.1 W (hr2.keep hB))
 have C3:=Lib.hid (fun W (hB:Below Z2.heap.size Z2 W)=>ZC [0] #[.int .i64 0] 1 rfl (by decide) rfl a3 d3 HN.out.2.2.1.1 W (hr3.keep hB))
 have C4:=Lib.hid (fun W (hB:Below Z2.heap.size Z2 W)=>ZC [0,1,0] #[.int .i64 0,.int .i64 1,.int .i64 0] 3 rfl (by decide) rfl a4 d4 HN.out.2.2.2.1 W (hr4.keep hB))
 have hb0:Below Z2.heap.size Z2 Z2:=Below.refl _ _
 have HI:=Lib.hid (bcl HD.out.1 (Below.call hI0 hI2 (Nat.le_refl _)))
 clear hr1 hr2 hr3 hr4 hI0 hI2 l1 m1 l2 m2 hto
 go_wp2_with (first | (go_at_call 11;(with_reducible refine (C1.out _ hb0).mono ?_);rintro e Y1 ⟨rfl,hY1⟩;have hb1:=bcl hb0 hY1) | (go_at_call 11;(with_reducible refine (C2.out _ hb1).mono ?_);rintro e Y2 ⟨rfl,hY2⟩;have hb2:=bcl hb1 hY2) | (go_at_call 11;(with_reducible refine (C3.out _ hb2).mono ?_);rintro e Y3 ⟨rfl,hY3⟩;have hb3:=bcl hb2 hY3) | (go_at_call 11;(with_reducible refine (C4.out _ hb3).mono ?_);rintro e Y4 ⟨rfl,hY4⟩;have hb4:=bcl hb3 hY4))
 go_ret
 exact ⟨rfl,bcl HI.out hb4⟩
def yT {α:Type} (f:α→α) (l:List α) (k:Nat):List α:=(l.take k).map f ++ l.drop k
theorem jo {α:Type} (f:α→α) (l:List α) (k:Nat):(yT f l k).length=l.length:=by
 unfold yT
 rw [List.length_append,List.length_map,List.length_take,List.length_drop]
 omega
theorem yO {α:Type} {f:α→α} {l:List α} {k:Nat} {x:α} (h:l[k]? = some x):(yT f l k)[k]? = some x:=by
 have hk:=(List.getElem?_eq_some_iff.1 h).1
 unfold yT
 rw [List.getElem?_append_right (by rw [List.length_map,List.length_take];omega),List.length_map,List.length_take,Nat.min_eq_left (by omega),Nat.sub_self,List.getElem?_drop,Nat.add_zero,h]
theorem YT {α:Type} {f:α→α} {l:List α} {k:Nat} {x:α} (h:l[k]? = some x):(yT f l k).set k (f x)=yT f l (k+1):=by
 obtain ⟨hk,rfl⟩:=List.getElem?_eq_some_iff.1 h
 unfold yT
 have hl:((l.take k).map f).length=k:=by rw [List.length_map,List.length_take];omega
 rw [List.set_append_right _ _ (by omega),hl,Nat.sub_self,List.drop_eq_getElem_cons hk,List.set_cons_zero,List.take_succ_eq_append_getElem hk,List.map_append,List.append_assoc]
 rfl
theorem YS {α:Type} (f:α→α) (l:List α):yT f l l.length=l.map f:=by
 unfold yT
 rw [List.take_length,List.drop_length,List.append_nil]
theorem qaJ {al:Int} {l:List Int} {w w':World} {e:Ending} (h:qcB al l w e w'):e=.returned (.tuple #[.agg #[.int .i64 (if al≠0 then 0 else l.getD 0 0),.int .i64 (if al≠0 then 0 else l.getD (l.length - 1) 0)],.int .i64 al])∧Below w.heap.size w w':=by
 obtain ⟨hB,⟨h1,h2⟩ | ⟨h1,h2⟩⟩:=h
 ·rw [if_pos h1,if_pos h1];exact ⟨h2,hB⟩
 ·subst h1;exact ⟨h2,hB⟩
theorem qeR {al:Int} {r:Int×Int} {w w':World} {e:Ending} (h:TwoP al r w e w'):e=.returned (.tuple #[.int .i64 (if al≠0 then 0 else r.1),.int .i64 (if al≠0 then 0 else r.2),.int .i64 al])∧Below w.heap.size w w':=by
 obtain ⟨hB,⟨h1,h2⟩ | ⟨h1,h2⟩⟩:=h
 ·rw [if_pos h1,if_pos h1];exact ⟨h2,hB⟩
 ·subst h1;exact ⟨h2,hB⟩
theorem ZY {α:Type} (f:α→α) (l:List α):yT f l 0=l:=by simp [yT]
set_option maxHeartbeats 4000000 in
set_option maxRecDepth 100000 in
theorem ZF (D:DayM) (late:Int) (hm:0≤late∧late < 256) (w:World) (hG:Globs w) (h:DayAt w D) (hcap:DayCap D) (hnh:D.ha=none→D.hc=0) (hnc:D.ca=none→D.cc=0) :
 Calls qj 6 #[dv D,.int .u8 late] w fun e w'=>e=.returned (.bool true):=by
 have hfit:=fun W (hB:Below w.heap.size w W)=>Fit_any D W (h.keep hB) hcap
 have HRO:=Lib.hid fun W (hB:Below w.heap.size w W)=>qcn W (hG.keep hB)
 have hdv:dv D=.agg #[.slice D.ta D.ts.length D.tc,.slice D.ga D.gs.length D.gc,.slice D.oa D.os.length D.oc,.slice D.ha D.hs.length D.hc,.slice D.ca D.cs.length D.cc]:=rfl
 obtain ⟨W,hW⟩:∃W,w.alloc (Obj.cells #[.slice D.ta D.ts.length D.tc,.slice D.ga D.gs.length D.gc,.slice D.oa D.os.length D.oc,.slice D.ha D.hs.length D.hc,.slice D.ca D.cs.length D.cc] 28)=W:=⟨_,rfl⟩
 have h5:B5 W w.heap.size (.slice D.ta D.ts.length D.tc) (.slice D.ga D.gs.length D.gc) (.slice D.oa D.os.length D.oc) (.slice D.ha D.hs.length D.hc) (.slice D.ca D.cs.length D.cc):=by subst hW;exact B5.new ..
 have hBw:Below w.heap.size w W:=by subst hW;go_grown
 cases hf:fitB D with
 | false =>
   rw [hf,hdv] at hfit
   rw [hdv]
   have HF:=Lib.hid hfit
   obtain ⟨k0,k1,k2,k3,k4⟩:=h5
   clear hdv hfit h hcap hG hf hnh hnc
   go_enter (sf 6 f6),ntmps6
   go_upto_region 1 with fail
   try rw [hW]
   clear hW
   go_wp2_with (first | (go_at_call 18;(with_reducible refine (HF.out _ hBw).mono ?_);rintro e w1 ⟨rfl,hB1⟩;replace hBw:=bcl hBw hB1) | (go_at_call 8;(with_reducible refine (HRO.out _ hBw).mono ?_);rintro e w2 ⟨rfl,hB2⟩))
   go_ret
   rfl
 | true =>
   obtain ⟨hs,hz⟩:=fit_out hf hcap
   rw [hf,hdv] at hfit
   obtain ⟨i0,hi,hiz,his,hib⟩:=info_parts qba
   obtain ⟨j0,hj,hjz,hjs,hjb⟩:=info_parts qaZ
   have hUH:qj.underlying 25=some (.slice 56):=(qy _).trans Tryz.underlying25
   have hUC:qj.underlying 26=some (.slice 52):=(qy _).trans Tryz.underlying26
   have hcl:=(zF D hz).cs
   have hhl:=hs.hs.1
   have HD:=Lib.hid (And.intro h (And.intro hs (And.intro hz (And.intro hG (And.intro hdv (And.intro hnh hnc))))))
   have HF:=Lib.hid hfit
   have H5:=Lib.hid h5
   rw [hdv]
   obtain ⟨k0,k1,k2,k3,k4⟩:=h5
   clear hdv hfit hcap hG hf h hs hz hnh hnc
   go_enter (sf 6 f6),ntmps6
   go_upto_region 1 with fail
   try rw [hW]
   clear hW
   have hwm:IntKind.i64.wrap late=late:=by rw [IntKind.wrap_i64];omega
   have htm:Int.tmod late 20=late % 20:=tmod_nat hm.1
   obtain ⟨n,hn⟩:∃n,late % 20=n:=⟨_,rfl⟩
   rw [hn] at htm
   have hn0:0≤n∧n < 20:=by omega
   clear hn
   go_upto_region 3 with (go_at_call 18;(with_reducible refine (HF.out _ hBw).mono ?_);rintro e W1 ⟨rfl,hB1⟩;replace k0:=qb _ hB1 k0;replace k1:=qb _ hB1 k1;replace k2:=qb _ hB1 k2;replace k3:=qb _ hB1 k3;replace k4:=qb _ hB1 k4)
   have hBw1:=bcl hBw hB1
   have HB1:=Lib.hid hB1
   have hzW1:w.heap.size < W1.heap.size:=lt_of_cell k0
   clear HF hB1
   go_upto_region 4 with fail
   clear hwm htm
   obtain ⟨U,hU⟩:∃U,W1.alloc (Obj.cells #[.slice D.ta D.ts.length D.tc,.slice D.ga D.gs.length D.gc,.slice D.oa D.os.length D.oc,.slice D.ha D.hs.length D.hc,.slice D.ca D.cs.length D.cc] 28)=U:=⟨_,rfl⟩
   have hBU:Below W1.heap.size W1 U:=by subst hU;go_grown
   have hzU:U.heap.size=W1.heap.size+1:=by subst hU;simp
   have u0:U.cell? ⟨W1.heap.size,0,none⟩=some (.slice D.ta D.ts.length D.tc):=by subst hU;go_cell
   have u1:U.cell? ⟨W1.heap.size,1,none⟩=some (.slice D.ga D.gs.length D.gc):=by subst hU;go_cell
   have u2:U.cell? ⟨W1.heap.size,2,none⟩=some (.slice D.oa D.os.length D.oc):=by subst hU;go_cell
   have u3:U.cell? ⟨W1.heap.size,3,none⟩=some (.slice D.ha D.hs.length D.hc):=by subst hU;go_cell
   have u4:U.cell? ⟨W1.heap.size,4,none⟩=some (.slice D.ca D.cs.length D.cc):=by subst hU;go_cell
   have f3:U.frozen? ⟨W1.heap.size,3,none⟩=false:=by subst hU;go_cell
   have f4:U.frozen? ⟨W1.heap.size,4,none⟩=false:=by subst hU;go_cell
   rw [hU]
   clear hU
   have HU:=Lib.hid (And.intro u0 (And.intro u1 (And.intro u2 (And.intro u3 (And.intro u4 (And.intro f3 f4))))))
   have hrh:=fun (X:World) (hB:Below W1.heap.size W1 X)=>((HD.out.1.keep hBw1).keep hB).hs
   have hrc:=fun (X:World) (hB:Below W1.heap.size W1 X)=>((HD.out.1.keep hBw1).keep hB).cs
   have HR:=Lib.hid (And.intro hrh hrc)
   have HZU:=Lib.hid hzU
   have hle:=hBU.size
   clear hzU hrh hrc u0 u1 u2 u3 u4 f3 f4 k0 k1 k2
   go_cut [4] from 31 to 40 (fun q wx=>q=.bool false∧∃g1 c1 g2 c2,D.hs.length≤c1∧D.cs.length≤c2∧(0 < D.hs.length→0 < D.cs.length→g1≠g2)∧Below W1.heap.size W1 wx∧zN U.heap.size wx 4 YQ (some ⟨g1,0,none⟩) D.hs∧zN U.heap.size wx 5 Qc (some ⟨g2,0,none⟩) D.cs∧B5 wx W1.heap.size (.slice D.ta D.ts.length D.tc) (.slice D.ga D.gs.length D.gc) (.slice D.oa D.os.length D.oc) (.slice (some ⟨g1,0,none⟩) D.hs.length c1) (.slice (some ⟨g2,0,none⟩) D.cs.length c2))
   case first =>
    go_wp2_with fail
    refine wp_region_held_drew (S:=(RHL [(⟨w.heap.size,3,none⟩,.slice D.ha D.hs.length D.hc),(⟨w.heap.size,4,none⟩,.slice D.ca D.cs.length D.cc)] W1)) (by kernel_rfl) (by exact RHL.drew ⟨qb _ hBU k3,qb _ hBU k4,hBU⟩) (fun hHeld=>?_)
    (refine tk 1 ?_;try simp only [zs,Act.put])
    (refine tk 2 ?_;try simp only [zs,Act.put])
    (refine tk 5 ?_;try simp only [zs,Act.put])
    (refine tk 6 ?_;try simp only [zs,Act.put])
    clear k3 k4
    refine wpAnyH_ready (rs:=[0,4]) (by kernel_rfl) (by simp) ?_
    refine AllReadyH.cons rfl (fun K hK=>?_) (AllReadyH.cons rfl (fun K hK=>?_) AllReadyH.nil)
    ·go_simp
     refine hK.out _ _ (by exact RHL.call hHeld ((Below.refl _ _).alloc (Nat.le_refl _) _)) (fun hHeldN=>?_)
     clear hK K hHeld;have hHeld:=hHeldN;clear hHeldN;try simp only [zs,Act.put]
     refine wpAnyH_ready (rs:=[3,4]) (by kernel_rfl) (by simp) ?_
     refine AllReadyH.cons rfl (fun K hK=>?_) (AllReadyH.cons rfl (fun K hK=>?_) AllReadyH.nil)
     ·have own1:=(show ((U.drew.alloc (Obj.cells #[] 56))).ownsRow U.heap.size 56 4 (.slice (some ⟨U.heap.size,0,none⟩) 0 0) 0 [] from (World.ownsRow_made (base:=U.heap.size) U.drew #[] 0 (Nat.le_refl _) (by unfold maxLen;omega) rfl))
      refine zX rfl (.tmp 31) (.tmp 33) 25 56 rfl i0 (.agg #[.int .i64 0,.int .i64 0,.int .i64 0,.int .i64 0]) 4 32 hUH hi hiz his hib rfl (by decide) (by decide) YQ (fun _=>rfl) D.hs (Xy _) D.ha D.hc D.hs.length rfl hhl HD.out.2.2.2.2.2.1 (U.heap.size) (U.heap.size) own1 (by simp <;> omega) rfl rfl (HR.out.1 _ (RHL.bel hHeld)) ?_
      intro g1 c1 Y1 l1 o1 ck1 q1 n1
      have hb1:=hHeld
      refine hK.out _ _ ⟨(ck1 _ _ hHeld.1).1,(ck1 _ _ hHeld.2.1).1,hHeld.2.2.trans ((Mod.grown (S:=fun b=>some b=some (U.heap.size)) q1 (fun b e=>e.symm)).keep (RHL.bel hHeld).size (fun b e=>by cases e;omega))⟩ (fun hHeldN=>?_)
      clear hK K hHeld;have hHeld:=hHeldN;clear hHeldN;try simp only [zs,Act.put]
      (refine tk 8 ?_;try simp only [zs,Act.put])
      refine wpAnyH_ready (rs:=[4]) (by kernel_rfl) (by simp) ?_
      refine AllReadyH.cons rfl (fun K hK=>?_) AllReadyH.nil
      go_simp
      refine hK.out _ _ (by exact RHL.call hHeld ((Below.refl _ _).alloc (Nat.le_refl _) _)) (fun hHeldN=>?_)
      clear hK K hHeld;have hHeld:=hHeldN;clear hHeldN;try simp only [zs,Act.put]
      refine wpAnyH_ready (rs:=[7]) (by kernel_rfl) (by simp) ?_
      refine AllReadyH.cons rfl (fun K hK=>?_) AllReadyH.nil
      have own2:=(show (Y1.alloc (Obj.cells #[] 52)).ownsRow U.heap.size 52 5 (.slice (some ⟨Y1.heap.size,0,none⟩) 0 0) 0 [] from (World.ownsRow_made (base:=U.heap.size) Y1 #[] 0 (by have:=q1.size;simp at this;omega) (by unfold maxLen;omega) rfl))
      refine zX rfl (.tmp 35) (.tmp 37) 26 52 rfl j0 (.agg #[.int .i64 0,.int .i64 0,.int .i64 0,.int .i64 0,.int .i64 0]) 5 40 hUC hj hjz hjs hjb rfl (by decide) (by decide) Qc (fun _=>rfl) D.cs (Xx _) D.ca D.cc D.cs.length rfl (by omega) HD.out.2.2.2.2.2.2 (U.heap.size) (Y1.heap.size) own2 (by have h9:=q1.size;simp at h9 ⊢;omega) rfl rfl (HR.out.2 _ (RHL.bel hHeld)) ?_
      intro g2 c2 Y2 l2 o2 ck2 q2 n2
      have hb2:=hHeld
      refine hK.out _ _ ⟨(ck2 _ _ hHeld.1).1,(ck2 _ _ hHeld.2.1).1,hHeld.2.2.trans ((Mod.grown (S:=fun b=>some b=some (Y1.heap.size)) q2 (fun b e=>e.symm)).keep (RHL.bel hHeld).size (fun b e=>by cases e;have h9:=q1.size;simp at h9;omega))⟩ (fun hHeldN=>?_)
      clear hK K hHeld;have hHeld:=hHeldN;clear hHeldN;try simp only [zs,Act.put]
      have hcc:yK U.drew Y2:=(((yK.alloc _ _).trans ck1).trans (yK.alloc _ _)).trans ck2
      have v0:=(hcc _ _ HU.out.1).1
      have v1:=(hcc _ _ HU.out.2.1).1
      have v2:=(hcc _ _ HU.out.2.2.1).1
      have v3:=(hcc _ _ HU.out.2.2.2.1).1
      have v4:=(hcc _ _ HU.out.2.2.2.2.1).1
      have y3:=(hcc _ _ HU.out.2.2.2.1).2.trans HU.out.2.2.2.2.2.1
      have y4:=(hcc _ _ HU.out.2.2.2.2.1).2.trans HU.out.2.2.2.2.2.2
      have oA:=Lib.hid (ck2.own (o1.keep ((Below.refl _ _).alloc (Nat.le_refl _) _)))
      have oB:=Lib.hid o2
      have hne:Hid (0 < D.hs.length→0 < D.cs.length→g1≠g2):=Lib.hid (fun h1 h2 e=>by
       have a1:=n1.1 h1
       have a2:=n2.1 h2
       have a3:=n1.2
       have a4:=q1.size
       simp at a1 a2 a3 a4
       omega)
      have HBY:=Lib.hid (RHL.bel hHeld)
      clear o1 o2 n1 n2 q1 q2 ck1 ck2 hcc own1 own2
      refine wpAnyH_ready (rs:=[9]) (by kernel_rfl) (by simp) ?_
      refine AllReadyH.cons rfl (fun K hK=>?_) AllReadyH.nil
      go_simp
      refine hK.out _ _ ⟨qf hHeld.1 (.inl (by simp only;omega)),qf hHeld.2.1 (.inl (by simp only;omega)),hHeld.2.2.setCell (Nat.le_refl _) _⟩ (fun hHeldN=>?_)
      clear hK K hHeld;have hHeld:=hHeldN;clear hHeldN;try simp only [zs,Act.put]
      (refine tk 10 ?_;try simp only [zs,Act.put])
      refine wpAnyH_ready (rs:=[11]) (by kernel_rfl) (by simp) ?_
      refine AllReadyH.cons rfl (fun K hK=>?_) AllReadyH.nil
      go_simp
      refine hK.out _ _ ⟨qf hHeld.1 (.inl (by simp only;omega)),qf hHeld.2.1 (.inl (by simp only;omega)),hHeld.2.2.setCell (Nat.le_refl _) _⟩ (fun hHeldN=>?_)
      clear hK K hHeld;have hHeld:=hHeldN;clear hHeldN;try simp only [zs,Act.put]
      refine wpAnyH_done (by kernel_rfl) ?_ _;try simp only [zs,Act.put]
      have hBz:=RHL.bel hHeld
      have hmz:∀(v1 v2:Value),Mod (fun j=>j=W1.heap.size) Y2 ((Y2.setCell ⟨W1.heap.size,3,none⟩ v1).setCell ⟨W1.heap.size,4,none⟩ v2):=fun v1 v2=>((Mod.refl (fun j=>j=W1.heap.size) Y2).put ⟨W1.heap.size,3,none⟩ _ rfl).put ⟨W1.heap.size,4,none⟩ _ rfl
      go_wp2_with fail
      go_meet
      exact ⟨rfl,g1,c1,g2,c2,l1,l2,hne.out,hBz,oA.out.mod (hmz _ _) (fun p hp e=>by have:=oA.out.1 p hp;have:=HZU.out;omega),oB.out.mod (hmz _ _) (fun p hp e=>by have:=oB.out.1 p hp;have:=HZU.out;omega),qf (qf v0 (.inr (by simp))) (.inr (by simp)),qf (qf v1 (.inr (by simp))) (.inr (by simp)),qf (qf v2 (.inr (by simp))) (.inr (by simp)),qf (qp (qz v3)) (.inr (by simp)),qp (qB (qz v4))⟩
     ·go_simp
      refine hK.out _ _ (by exact RHL.call hHeld ((Below.refl _ _).alloc (Nat.le_refl _) _)) (fun hHeldN=>?_)
      clear hK K hHeld;have hHeld:=hHeldN;clear hHeldN;try simp only [zs,Act.put]
      refine wpAnyH_ready (rs:=[3]) (by kernel_rfl) (by simp) ?_
      refine AllReadyH.cons rfl (fun K hK=>?_) AllReadyH.nil
      have own1:=(show ((U.drew.alloc (Obj.cells #[] 56)).alloc (Obj.cells #[] 52)).ownsRow U.heap.size 56 4 (.slice (some ⟨U.heap.size,0,none⟩) 0 0) 0 [] from yn (World.ownsRow_made (base:=U.heap.size) U.drew #[] 0 (Nat.le_refl _) (by unfold maxLen;omega) rfl) ((Below.refl _ _).alloc (Nat.le_refl _) _))
      refine zX rfl (.tmp 31) (.tmp 33) 25 56 rfl i0 (.agg #[.int .i64 0,.int .i64 0,.int .i64 0,.int .i64 0]) 4 32 hUH hi hiz his hib rfl (by decide) (by decide) YQ (fun _=>rfl) D.hs (Xy _) D.ha D.hc D.hs.length rfl hhl HD.out.2.2.2.2.2.1 (U.heap.size) (U.heap.size) own1 (by simp;omega) rfl rfl (HR.out.1 _ (RHL.bel hHeld)) ?_
      intro g1 c1 Y1 l1 o1 ck1 q1 n1
      have hb1:=hHeld
      refine hK.out _ _ ⟨(ck1 _ _ hHeld.1).1,(ck1 _ _ hHeld.2.1).1,hHeld.2.2.trans ((Mod.grown (S:=fun b=>some b=some (U.heap.size)) q1 (fun b e=>e.symm)).keep (RHL.bel hHeld).size (fun b e=>by cases e;omega))⟩ (fun hHeldN=>?_)
      clear hK K hHeld;have hHeld:=hHeldN;clear hHeldN;try simp only [zs,Act.put]
      (refine tk 8 ?_;try simp only [zs,Act.put])
      refine wpAnyH_ready (rs:=[7]) (by kernel_rfl) (by simp) ?_
      refine AllReadyH.cons rfl (fun K hK=>?_) AllReadyH.nil
      have own2:=(show Y1.ownsRow U.heap.size 52 5 (.slice (some ⟨U.heap.size+1,0,none⟩) 0 0) 0 [] from ((show ((U.drew.alloc (Obj.cells #[] 56)).alloc (Obj.cells #[] 52)).ownsRow U.heap.size 52 5 (.slice (some ⟨U.heap.size+1,0,none⟩) 0 0) 0 [] from qdQ (by simp) (by omega))).kept q1 (.inr (by simp [Value.ownBlock])))
      refine zX rfl (.tmp 35) (.tmp 37) 26 52 rfl j0 (.agg #[.int .i64 0,.int .i64 0,.int .i64 0,.int .i64 0,.int .i64 0]) 5 40 hUC hj hjz hjs hjb rfl (by decide) (by decide) Qc (fun _=>rfl) D.cs (Xx _) D.ca D.cc D.cs.length rfl (by omega) HD.out.2.2.2.2.2.2 (U.heap.size) (U.heap.size+1) own2 (by have h9:=q1.size;simp at h9;omega) rfl rfl (HR.out.2 _ (RHL.bel hHeld)) ?_
      intro g2 c2 Y2 l2 o2 ck2 q2 n2
      have hb2:=hHeld
      refine hK.out _ _ ⟨(ck2 _ _ hHeld.1).1,(ck2 _ _ hHeld.2.1).1,hHeld.2.2.trans ((Mod.grown (S:=fun b=>some b=some (U.heap.size+1)) q2 (fun b e=>e.symm)).keep (RHL.bel hHeld).size (fun b e=>by cases e;omega))⟩ (fun hHeldN=>?_)
      clear hK K hHeld;have hHeld:=hHeldN;clear hHeldN;try simp only [zs,Act.put]
      have hcc:yK U.drew Y2:=(((yK.alloc _ _).trans (yK.alloc _ _)).trans ck1).trans ck2
      have v0:=(hcc _ _ HU.out.1).1
      have v1:=(hcc _ _ HU.out.2.1).1
      have v2:=(hcc _ _ HU.out.2.2.1).1
      have v3:=(hcc _ _ HU.out.2.2.2.1).1
      have v4:=(hcc _ _ HU.out.2.2.2.2.1).1
      have y3:=(hcc _ _ HU.out.2.2.2.1).2.trans HU.out.2.2.2.2.2.1
      have y4:=(hcc _ _ HU.out.2.2.2.2.1).2.trans HU.out.2.2.2.2.2.2
      have oA:=Lib.hid (ck2.own (o1))
      have oB:=Lib.hid o2
      have hne:Hid (0 < D.hs.length→0 < D.cs.length→g1≠g2):=Lib.hid (fun h1 h2 e=>by
       have a1:=n1.1 h1
       have a2:=n2.1 h2
       have a3:=n1.2
       have a4:=q1.size
       simp at a1 a2 a3 a4
       omega)
      have HBY:=Lib.hid (RHL.bel hHeld)
      clear o1 o2 n1 n2 q1 q2 ck1 ck2 hcc own1 own2
      refine wpAnyH_ready (rs:=[9]) (by kernel_rfl) (by simp) ?_
      refine AllReadyH.cons rfl (fun K hK=>?_) AllReadyH.nil
      go_simp
      refine hK.out _ _ ⟨qf hHeld.1 (.inl (by simp only;omega)),qf hHeld.2.1 (.inl (by simp only;omega)),hHeld.2.2.setCell (Nat.le_refl _) _⟩ (fun hHeldN=>?_)
      clear hK K hHeld;have hHeld:=hHeldN;clear hHeldN;try simp only [zs,Act.put]
      (refine tk 10 ?_;try simp only [zs,Act.put])
      refine wpAnyH_ready (rs:=[11]) (by kernel_rfl) (by simp) ?_
      refine AllReadyH.cons rfl (fun K hK=>?_) AllReadyH.nil
      go_simp
      refine hK.out _ _ ⟨qf hHeld.1 (.inl (by simp only;omega)),qf hHeld.2.1 (.inl (by simp only;omega)),hHeld.2.2.setCell (Nat.le_refl _) _⟩ (fun hHeldN=>?_)
      clear hK K hHeld;have hHeld:=hHeldN;clear hHeldN;try simp only [zs,Act.put]
      refine wpAnyH_done (by kernel_rfl) ?_ _;try simp only [zs,Act.put]
      have hBz:=RHL.bel hHeld
      have hmz:∀(v1 v2:Value),Mod (fun j=>j=W1.heap.size) Y2 ((Y2.setCell ⟨W1.heap.size,3,none⟩ v1).setCell ⟨W1.heap.size,4,none⟩ v2):=fun v1 v2=>((Mod.refl (fun j=>j=W1.heap.size) Y2).put ⟨W1.heap.size,3,none⟩ _ rfl).put ⟨W1.heap.size,4,none⟩ _ rfl
      go_wp2_with fail
      go_meet
      exact ⟨rfl,g1,c1,g2,c2,l1,l2,hne.out,hBz,oA.out.mod (hmz _ _) (fun p hp e=>by have:=oA.out.1 p hp;have:=HZU.out;omega),oB.out.mod (hmz _ _) (fun p hp e=>by have:=oB.out.1 p hp;have:=HZU.out;omega),qf (qf v0 (.inr (by simp))) (.inr (by simp)),qf (qf v1 (.inr (by simp))) (.inr (by simp)),qf (qf v2 (.inr (by simp))) (.inr (by simp)),qf (qp (qz v3)) (.inr (by simp)),qp (qB (qz v4))⟩
    ·go_simp
     refine hK.out _ _ (by exact RHL.call hHeld ((Below.refl _ _).alloc (Nat.le_refl _) _)) (fun hHeldN=>?_)
     clear hK K hHeld;have hHeld:=hHeldN;clear hHeldN;try simp only [zs,Act.put]
     refine wpAnyH_ready (rs:=[0]) (by kernel_rfl) (by simp) ?_
     refine AllReadyH.cons rfl (fun K hK=>?_) AllReadyH.nil
     go_simp
     refine hK.out _ _ (by exact RHL.call hHeld ((Below.refl _ _).alloc (Nat.le_refl _) _)) (fun hHeldN=>?_)
     clear hK K hHeld;have hHeld:=hHeldN;clear hHeldN;try simp only [zs,Act.put]
     refine wpAnyH_ready (rs:=[3]) (by kernel_rfl) (by simp) ?_
     refine AllReadyH.cons rfl (fun K hK=>?_) AllReadyH.nil
     have own1:=(show ((U.drew.alloc (Obj.cells #[] 52)).alloc (Obj.cells #[] 56)).ownsRow U.heap.size 56 4 (.slice (some ⟨U.heap.size+1,0,none⟩) 0 0) 0 [] from qdQ (by simp) (by omega))
     refine zX rfl (.tmp 31) (.tmp 33) 25 56 rfl i0 (.agg #[.int .i64 0,.int .i64 0,.int .i64 0,.int .i64 0]) 4 32 hUH hi hiz his hib rfl (by decide) (by decide) YQ (fun _=>rfl) D.hs (Xy _) D.ha D.hc D.hs.length rfl hhl HD.out.2.2.2.2.2.1 (U.heap.size) (U.heap.size+1) own1 (by simp;omega) rfl rfl (HR.out.1 _ (RHL.bel hHeld)) ?_
     intro g1 c1 Y1 l1 o1 ck1 q1 n1
     have hb1:=hHeld
     refine hK.out _ _ ⟨(ck1 _ _ hHeld.1).1,(ck1 _ _ hHeld.2.1).1,hHeld.2.2.trans ((Mod.grown (S:=fun b=>some b=some (U.heap.size+1)) q1 (fun b e=>e.symm)).keep (RHL.bel hHeld).size (fun b e=>by cases e;omega))⟩ (fun hHeldN=>?_)
     clear hK K hHeld;have hHeld:=hHeldN;clear hHeldN;try simp only [zs,Act.put]
     (refine tk 8 ?_;try simp only [zs,Act.put])
     refine wpAnyH_ready (rs:=[7]) (by kernel_rfl) (by simp) ?_
     refine AllReadyH.cons rfl (fun K hK=>?_) AllReadyH.nil
     have own2:=(show Y1.ownsRow U.heap.size 52 5 (.slice (some ⟨U.heap.size,0,none⟩) 0 0) 0 [] from (yn (World.ownsRow_made (base:=U.heap.size) U.drew #[] 0 (Nat.le_refl _) (by unfold maxLen;omega) rfl) ((Below.refl _ _).alloc (Nat.le_refl _) _)).kept q1 (.inr (by simp [Value.ownBlock])))
     refine zX rfl (.tmp 35) (.tmp 37) 26 52 rfl j0 (.agg #[.int .i64 0,.int .i64 0,.int .i64 0,.int .i64 0,.int .i64 0]) 5 40 hUC hj hjz hjs hjb rfl (by decide) (by decide) Qc (fun _=>rfl) D.cs (Xx _) D.ca D.cc D.cs.length rfl (by omega) HD.out.2.2.2.2.2.2 (U.heap.size) (U.heap.size) own2 (by have h9:=q1.size;simp at h9;omega) rfl rfl (HR.out.2 _ (RHL.bel hHeld)) ?_
     intro g2 c2 Y2 l2 o2 ck2 q2 n2
     have hb2:=hHeld
     refine hK.out _ _ ⟨(ck2 _ _ hHeld.1).1,(ck2 _ _ hHeld.2.1).1,hHeld.2.2.trans ((Mod.grown (S:=fun b=>some b=some (U.heap.size)) q2 (fun b e=>e.symm)).keep (RHL.bel hHeld).size (fun b e=>by cases e;omega))⟩ (fun hHeldN=>?_)
     clear hK K hHeld;have hHeld:=hHeldN;clear hHeldN;try simp only [zs,Act.put]
     have hcc:yK U.drew Y2:=(((yK.alloc _ _).trans (yK.alloc _ _)).trans ck1).trans ck2
     have v0:=(hcc _ _ HU.out.1).1
     have v1:=(hcc _ _ HU.out.2.1).1
     have v2:=(hcc _ _ HU.out.2.2.1).1
     have v3:=(hcc _ _ HU.out.2.2.2.1).1
     have v4:=(hcc _ _ HU.out.2.2.2.2.1).1
     have y3:=(hcc _ _ HU.out.2.2.2.1).2.trans HU.out.2.2.2.2.2.1
     have y4:=(hcc _ _ HU.out.2.2.2.2.1).2.trans HU.out.2.2.2.2.2.2
     have oA:=Lib.hid (ck2.own (o1))
     have oB:=Lib.hid o2
     have hne:Hid (0 < D.hs.length→0 < D.cs.length→g1≠g2):=Lib.hid (fun h1 h2 e=>by
      have a1:=n1.1 h1
      have a2:=n2.1 h2
      have a3:=n1.2
      have a4:=q1.size
      simp at a1 a2 a3 a4
      omega)
     have HBY:=Lib.hid (RHL.bel hHeld)
     clear o1 o2 n1 n2 q1 q2 ck1 ck2 hcc own1 own2
     refine wpAnyH_ready (rs:=[9]) (by kernel_rfl) (by simp) ?_
     refine AllReadyH.cons rfl (fun K hK=>?_) AllReadyH.nil
     go_simp
     refine hK.out _ _ ⟨qf hHeld.1 (.inl (by simp only;omega)),qf hHeld.2.1 (.inl (by simp only;omega)),hHeld.2.2.setCell (Nat.le_refl _) _⟩ (fun hHeldN=>?_)
     clear hK K hHeld;have hHeld:=hHeldN;clear hHeldN;try simp only [zs,Act.put]
     (refine tk 10 ?_;try simp only [zs,Act.put])
     refine wpAnyH_ready (rs:=[11]) (by kernel_rfl) (by simp) ?_
     refine AllReadyH.cons rfl (fun K hK=>?_) AllReadyH.nil
     go_simp
     refine hK.out _ _ ⟨qf hHeld.1 (.inl (by simp only;omega)),qf hHeld.2.1 (.inl (by simp only;omega)),hHeld.2.2.setCell (Nat.le_refl _) _⟩ (fun hHeldN=>?_)
     clear hK K hHeld;have hHeld:=hHeldN;clear hHeldN;try simp only [zs,Act.put]
     refine wpAnyH_done (by kernel_rfl) ?_ _;try simp only [zs,Act.put]
     have hBz:=RHL.bel hHeld
     have hmz:∀(v1 v2:Value),Mod (fun j=>j=W1.heap.size) Y2 ((Y2.setCell ⟨W1.heap.size,3,none⟩ v1).setCell ⟨W1.heap.size,4,none⟩ v2):=fun v1 v2=>((Mod.refl (fun j=>j=W1.heap.size) Y2).put ⟨W1.heap.size,3,none⟩ _ rfl).put ⟨W1.heap.size,4,none⟩ _ rfl
     go_wp2_with fail
     go_meet
     exact ⟨rfl,g1,c1,g2,c2,l1,l2,hne.out,hBz,oA.out.mod (hmz _ _) (fun p hp e=>by have:=oA.out.1 p hp;have:=HZU.out;omega),oB.out.mod (hmz _ _) (fun p hp e=>by have:=oB.out.1 p hp;have:=HZU.out;omega),qf (qf v0 (.inr (by simp))) (.inr (by simp)),qf (qf v1 (.inr (by simp))) (.inr (by simp)),qf (qf v2 (.inr (by simp))) (.inr (by simp)),qf (qp (qz v3)) (.inr (by simp)),qp (qB (qz v4))⟩
   case rest =>
    obtain ⟨hq,g1,c1,g2,c2,l1,l2,hne,hBz,oA,oB,b5⟩:=hcut
    subst hq
    obtain ⟨Z,hZ⟩:∃Z,Z=wc:=⟨_,rfl⟩
    subst hZ
    have HT:=Lib.hid (times_ok HD.out.2.2.1)
    have hz1:=oA.1 _ rfl
    have hz2:=oB.1 _ rfl
    simp only at hz1 hz2
    have hz0:=HZU.out
    have hg1:W1.heap.size < g1:=by omega
    have hg2:W1.heap.size < g2:=by omega
    have HB5:=Lib.hid b5
    have HO:=Lib.hid (And.intro oA (And.intro oB (And.intro hne hBz)))
    clear hz0 hz1 hz2 oA oB hne b5 hBz HU hle hBU
    go_wp2
    have HBZ:=Lib.hid HO.out.2.2.2
    go_loopw [7] (fun i wx=>∃k:Nat,i=.int .i64 k∧k≤D.hs.length∧Hid (Mod (fun j=>j=g1∧0 < D.hs.length) Z wx)∧Hid (zN U.heap.size wx 4 YQ (some ⟨g1,0,none⟩) (yT (Yf n) D.hs k))) (fun i _=>D.hs.length - (intOf i).toNat)
    case atStart=>exact ⟨0,rfl,Nat.zero_le _,Lib.hid (Mod.refl _ _),Lib.hid (by rw [ZY];exact HO.out.1)⟩
    case round =>
     obtain ⟨k,rfl,hk,HM,HR1⟩:=hrel
     have hBx:Below W1.heap.size W1 wr:=HBZ.out.trans (HM.out.keep HBZ.out.size (fun b e=>by omega))
     have o3:=HM.out.cell HB5.out.c3 (fun e=>by simp only at e;omega)
     by_cases hlt:k < D.hs.length
     ·have k3:=(H5.out.keep (bcl HB1.out hBx)).c3
      obtain ⟨x,hx⟩:∃x,D.hs[k]? = some x:=⟨_,List.getElem?_eq_getElem hlt⟩
      obtain ⟨hb,ho,hha,hP⟩:=HR.out.1 W1 (Below.refl _ _) (by omega)
      have s2:=qb _ hBx (hP k x hx 2 _ rfl)
      have s3:=qb _ hBx (hP k x hx 3 _ rfl)
      have hbl:=lt_of_cell (hP k x hx 2 _ rfl)
      simp only at hbl
      obtain ⟨g',eg,hc9⟩:=HR1.out.2 (by rw [jo];omega)
      cases eg
      obtain ⟨d2,f2⟩:=hc9 k x (yO hx) 2 _ rfl
      obtain ⟨d3,f3⟩:=hc9 k x (yO hx) 3 _ rfl
      have ht:=HT.out.1 x (List.mem_of_getElem? hx)
      rw [hha] at k3
      have hki:(k:Int) < (D.hs.length:Int):=by omega
      have hkc:(k:Int)≤(c1:Int):=by omega
      have hkd:(k:Int)≤(D.hc:Int):=by have:=HD.out.2.1.hs.2;omega
      have hk0:(0:Int)≤(k:Int):=Int.natCast_nonneg k
      have w2:wrap64 (x.b+n)=x.b+n:=wrap_small (by omega) (by omega)
      have w3:wrap64 (x.e+n)=x.e+n:=wrap_small (by omega) (by omega)
      have HX:=Lib.hid hx
      have hWg:W1.heap.size≤g1:=by omega
      clear hP hx hc9 hha ht
      go_upto_region 8 with fail
      refine wp_region_held_drew (S:=(RHL [(⟨W1.heap.size,3,none⟩,.slice (some ⟨g1,0,none⟩) D.hs.length c1),(⟨w.heap.size,3,none⟩,.slice (some ⟨hb,ho,none⟩) D.hs.length D.hc),(⟨hb,ho+k * 4+2,none⟩,.int .i64 x.b),(⟨hb,ho+k * 4+3,none⟩,.int .i64 x.e)] W1)) (by kernel_rfl) (by exact RHL.drew ⟨o3,k3,s2,s3,hBx⟩) (fun hHeld=>?_)
      (refine tk 0 ?_;try simp only [zs,Act.put])
      (refine tk 1 ?_;try simp only [zs,Act.put])
      (refine tk 2 ?_;try simp only [zs,Act.put])
      (refine tk 3 ?_;try simp only [zs,Act.put])
      (refine tk 4 ?_;try simp only [zs,Act.put])
      (refine tk 5 ?_;try simp only [zs,Act.put])
      (refine tk 6 ?_;try simp only [zs,Act.put])
      (refine tk 7 ?_;try simp only [zs,Act.put])
      (refine tk 8 ?_;try simp only [zs,Act.put])
      (refine tk 9 ?_;try simp only [zs,Act.put])
      (refine tk 10 ?_;try simp only [zs,Act.put])
      (refine tk 11 ?_;try simp only [zs,Act.put])
      (refine tk 12 ?_;try simp only [zs,Act.put])
      (refine tk 13 ?_;try simp only [zs,Act.put])
      (refine tk 14 ?_;try simp only [zs,Act.put])
      (refine tk 15 ?_;try simp only [zs,Act.put])
      (refine tk 16 ?_;try simp only [zs,Act.put])
      (refine tk 17 ?_;try simp only [zs,Act.put])
      (refine tk 18 ?_;try simp only [zs,Act.put])
      (refine tk 19 ?_;try simp only [zs,Act.put])
      (refine tk 20 ?_;try simp only [zs,Act.put])
      (refine tk 21 ?_;try simp only [zs,Act.put])
      (refine tk 22 ?_;try simp only [zs,Act.put])
      (refine tk 23 ?_;try simp only [zs,Act.put])
      have HW:=Lib.hid (And.intro w2 w3)
      clear w2 w3
      refine wpAnyH_ready (rs:=[24]) (by kernel_rfl) (by simp) ?_
      refine AllReadyH.cons rfl (fun K hK=>?_) AllReadyH.nil
      go_simp
      refine hK.out _ _ ⟨qf hHeld.1 (.inl (by simp only;omega)),qf hHeld.2.1 (.inl (by simp only;omega)),qf hHeld.2.2.1 (.inl (by simp only;omega)),qf hHeld.2.2.2.1 (.inl (by simp only;omega)),(RHL.bel hHeld).setCell hWg _⟩ (fun hHeldN=>?_)
      clear hK K hHeld;have hHeld:=hHeldN;clear hHeldN;try simp only [zs,Act.put]
      (refine tk 25 ?_;try simp only [zs,Act.put])
      (refine tk 26 ?_;try simp only [zs,Act.put])
      refine wpAnyH_ready (rs:=[27]) (by kernel_rfl) (by simp) ?_
      refine AllReadyH.cons rfl (fun K hK=>?_) AllReadyH.nil
      go_simp
      refine hK.out _ _ ⟨qf hHeld.1 (.inl (by simp only;omega)),qf hHeld.2.1 (.inl (by simp only;omega)),qf hHeld.2.2.1 (.inl (by simp only;omega)),qf hHeld.2.2.2.1 (.inl (by simp only;omega)),(RHL.bel hHeld).setCell hWg _⟩ (fun hHeldN=>?_)
      clear hK K hHeld;have hHeld:=hHeldN;clear hHeldN;try simp only [zs,Act.put]
      refine wpAnyH_done (by kernel_rfl) ?_ _;try simp only [zs,Act.put]
      clear hHeld
      go_wp2
      go_roundw
      case rel =>
       have e1:=zN.setj (k:=4) (enc:=YQ) (j:=2) (y:={ x with b:=x.b+n }) (v:=.int .i64 (wrap64 (x.b+n))) (fun _=>rfl) HR1.out (yO HX.out) (by rw [HW.out.1];rfl) (by decide)
       have hkl:k < (yT (Yf n) D.hs k).length:=by rw [jo];omega
       have e2:=zN.setj (k:=4) (enc:=YQ) (j:=3) (y:=Yf n x) (v:=.int .i64 (wrap64 (x.e+n))) (fun _=>rfl) e1 (List.getElem?_set_self hkl) (by rw [HW.out.2];rfl) (by decide)
       rw [List.set_set,YT HX.out] at e2
       exact ⟨k+1,rfl,by omega,Lib.hid (((HM.out.put ⟨g1,k * 4+2,none⟩ _ ⟨rfl,by omega⟩).put ⟨g1,k * 4+3,none⟩ _ ⟨rfl,by omega⟩).trans (Mod.below (Below.refl _ _).drew)),Lib.hid (e2.keep (Below.refl _ _).drew)⟩
      case measure=>simp [intOf];omega
     ·obtain rfl:k=D.hs.length:=by omega
      have hR1:=HR1.out
      rw [YS] at hR1
      obtain ⟨Y,hY⟩:∃Y,Y=wr:=⟨_,rfl⟩
      subst hY
      have HA:=Lib.hid hR1
      have HBY:=Lib.hid hBx
      have HOB:=Lib.hid (HO.out.2.1.mod2 HM.out (fun hl p hp e=>by cases hp;exact HO.out.2.2.1 e.2 (by omega) e.1.symm))
      have HB5Y:Hid (B5 Y W1.heap.size (.slice D.ta D.ts.length D.tc) (.slice D.ga D.gs.length D.gc) (.slice D.oa D.os.length D.oc) (.slice (some ⟨g1,0,none⟩) D.hs.length c1) (.slice (some ⟨g2,0,none⟩) D.cs.length c2)):=Lib.hid ⟨HM.out.cell HB5.out.c0 (fun e=>by simp only at e;omega),HM.out.cell HB5.out.c1 (fun e=>by simp only at e;omega),HM.out.cell HB5.out.c2 (fun e=>by simp only at e;omega),HM.out.cell HB5.out.c3 (fun e=>by simp only at e;omega),HM.out.cell HB5.out.c4 (fun e=>by simp only at e;omega)⟩
      clear hR1 HR1 HM hBx hlt hk
      go_wp2
      clear o3
      go_loopw [8] (fun i wx=>∃k:Nat,i=.int .i64 k∧k≤D.cs.length∧Hid (Mod (fun j=>j=g2∧0 < D.cs.length) Y wx)∧Hid (zN U.heap.size wx 5 Qc (some ⟨g2,0,none⟩) (yT (xU n) D.cs k))) (fun i _=>D.cs.length - (intOf i).toNat)
      case atStart=>exact ⟨0,rfl,Nat.zero_le _,Lib.hid (Mod.refl _ _),Lib.hid (by rw [ZY];exact HOB.out)⟩
      case round =>
       obtain ⟨k,rfl,hk,HM,HR2⟩:=hrel
       have hBx:Below W1.heap.size W1 wr:=HBY.out.trans (HM.out.keep HBY.out.size (fun b e=>by omega))
       have o3:=HM.out.cell HB5Y.out.c4 (fun e=>by simp only at e;omega)
       by_cases hlt:k < D.cs.length
       ·have k3:=(H5.out.keep (bcl HB1.out hBx)).c4
        obtain ⟨x,hx⟩:∃x,D.cs[k]? = some x:=⟨_,List.getElem?_eq_getElem hlt⟩
        obtain ⟨hb,ho,hha,hP⟩:=HR.out.2 W1 (Below.refl _ _) (by omega)
        have s2:=qb _ hBx (hP k x hx 2 _ rfl)
        have s3:=qb _ hBx (hP k x hx 3 _ rfl)
        have hbl:=lt_of_cell (hP k x hx 2 _ rfl)
        simp only at hbl
        obtain ⟨g',eg,hc9⟩:=HR2.out.2 (by rw [jo];omega)
        cases eg
        obtain ⟨d2,f2⟩:=hc9 k x (yO hx) 2 _ rfl
        obtain ⟨d3,f3⟩:=hc9 k x (yO hx) 3 _ rfl
        have ht:=HT.out.2 x (List.mem_of_getElem? hx)
        rw [hha] at k3
        have hki:(k:Int) < (D.cs.length:Int):=by omega
        have hkc:(k:Int)≤(c2:Int):=by omega
        have hkd:(k:Int)≤(D.cc:Int):=by have:=HD.out.2.1.cs.2;omega
        have hk0:(0:Int)≤(k:Int):=Int.natCast_nonneg k
        have w2:wrap64 (x.co+n)=x.co+n:=wrap_small (by omega) (by omega)
        have w3:wrap64 (x.cl+n)=x.cl+n:=wrap_small (by omega) (by omega)
        have HX:=Lib.hid hx
        have hWg:W1.heap.size≤g2:=by omega
        clear hP hx hc9 hha ht
        go_upto_region 12 with fail
        refine wp_region_held_drew (S:=(RHL [(⟨W1.heap.size,4,none⟩,.slice (some ⟨g2,0,none⟩) D.cs.length c2),(⟨w.heap.size,4,none⟩,.slice (some ⟨hb,ho,none⟩) D.cs.length D.cc),(⟨hb,ho+k * 5+2,none⟩,.int .i64 x.co),(⟨hb,ho+k * 5+3,none⟩,.int .i64 x.cl)] W1)) (by kernel_rfl) (by exact RHL.drew ⟨o3,k3,s2,s3,hBx⟩) (fun hHeld=>?_)
        (refine tk 0 ?_;try simp only [zs,Act.put])
        (refine tk 1 ?_;try simp only [zs,Act.put])
        (refine tk 2 ?_;try simp only [zs,Act.put])
        (refine tk 3 ?_;try simp only [zs,Act.put])
        (refine tk 4 ?_;try simp only [zs,Act.put])
        (refine tk 5 ?_;try simp only [zs,Act.put])
        (refine tk 6 ?_;try simp only [zs,Act.put])
        (refine tk 7 ?_;try simp only [zs,Act.put])
        (refine tk 8 ?_;try simp only [zs,Act.put])
        (refine tk 9 ?_;try simp only [zs,Act.put])
        (refine tk 10 ?_;try simp only [zs,Act.put])
        (refine tk 11 ?_;try simp only [zs,Act.put])
        (refine tk 12 ?_;try simp only [zs,Act.put])
        (refine tk 13 ?_;try simp only [zs,Act.put])
        (refine tk 14 ?_;try simp only [zs,Act.put])
        (refine tk 15 ?_;try simp only [zs,Act.put])
        (refine tk 16 ?_;try simp only [zs,Act.put])
        (refine tk 17 ?_;try simp only [zs,Act.put])
        (refine tk 18 ?_;try simp only [zs,Act.put])
        (refine tk 19 ?_;try simp only [zs,Act.put])
        (refine tk 20 ?_;try simp only [zs,Act.put])
        (refine tk 21 ?_;try simp only [zs,Act.put])
        (refine tk 22 ?_;try simp only [zs,Act.put])
        (refine tk 23 ?_;try simp only [zs,Act.put])
        have HW:=Lib.hid (And.intro w2 w3)
        clear w2 w3
        refine wpAnyH_ready (rs:=[24]) (by kernel_rfl) (by simp) ?_
        refine AllReadyH.cons rfl (fun K hK=>?_) AllReadyH.nil
        go_simp
        refine hK.out _ _ ⟨qf hHeld.1 (.inl (by simp only;omega)),qf hHeld.2.1 (.inl (by simp only;omega)),qf hHeld.2.2.1 (.inl (by simp only;omega)),qf hHeld.2.2.2.1 (.inl (by simp only;omega)),(RHL.bel hHeld).setCell hWg _⟩ (fun hHeldN=>?_)
        clear hK K hHeld;have hHeld:=hHeldN;clear hHeldN;try simp only [zs,Act.put]
        (refine tk 25 ?_;try simp only [zs,Act.put])
        (refine tk 26 ?_;try simp only [zs,Act.put])
        refine wpAnyH_ready (rs:=[27]) (by kernel_rfl) (by simp) ?_
        refine AllReadyH.cons rfl (fun K hK=>?_) AllReadyH.nil
        go_simp
        refine hK.out _ _ ⟨qf hHeld.1 (.inl (by simp only;omega)),qf hHeld.2.1 (.inl (by simp only;omega)),qf hHeld.2.2.1 (.inl (by simp only;omega)),qf hHeld.2.2.2.1 (.inl (by simp only;omega)),(RHL.bel hHeld).setCell hWg _⟩ (fun hHeldN=>?_)
        clear hK K hHeld;have hHeld:=hHeldN;clear hHeldN;try simp only [zs,Act.put]
        refine wpAnyH_done (by kernel_rfl) ?_ _;try simp only [zs,Act.put]
        clear hHeld
        go_wp2
        go_roundw
        case rel =>
         have e1:=zN.setj (k:=5) (enc:=Qc) (j:=2) (y:={ x with co:=x.co+n }) (v:=.int .i64 (wrap64 (x.co+n))) (fun _=>rfl) HR2.out (yO HX.out) (by rw [HW.out.1];rfl) (by decide)
         have hkl:k < (yT (xU n) D.cs k).length:=by rw [jo];omega
         have e2:=zN.setj (k:=5) (enc:=Qc) (j:=3) (y:=xU n x) (v:=.int .i64 (wrap64 (x.cl+n))) (fun _=>rfl) e1 (List.getElem?_set_self hkl) (by rw [HW.out.2];rfl) (by decide)
         rw [List.set_set,YT HX.out] at e2
         exact ⟨k+1,rfl,by omega,Lib.hid (((HM.out.put ⟨g2,k * 5+2,none⟩ _ ⟨rfl,by omega⟩).put ⟨g2,k * 5+3,none⟩ _ ⟨rfl,by omega⟩).trans (Mod.below (Below.refl _ _).drew)),Lib.hid (e2.keep (Below.refl _ _).drew)⟩
        case measure=>simp [intOf];omega
       ·obtain rfl:k=D.cs.length:=by omega
        have hR2:=HR2.out
        rw [YS] at hR2
        obtain ⟨X,hX⟩:∃X,X=wr:=⟨_,rfl⟩
        subst hX
        have hA:=HA.out.mod2 HM.out (fun hl p hp e=>by cases hp;exact HO.out.2.2.1 (by rw [List.length_map] at hl;omega) e.2 e.1)
        have hBX:=bcl hBw1 hBx
        have hd:=HD.out.1.keep hBX
        have hdX:DayAt X (yM D n (some ⟨g1,0,none⟩) c1 (some ⟨g2,0,none⟩) c2):=⟨hd.ts,hd.gs,hd.os,hd.ws,hd.ls,hA.rows,hR2.rows⟩
        have hsX:DaySm (yM D n (some ⟨g1,0,none⟩) c1 (some ⟨g2,0,none⟩) c2):=by
         have h:=HD.out.2.1
         refine ⟨h.ts,h.nm,h.gs,h.os,h.ws,h.ls,?_,?_⟩
         ·show (D.hs.map (Yf n)).length≤20∧(D.hs.map (Yf n)).length≤c1
          rw [List.length_map]
          exact ⟨h.hs.1,l1⟩
         ·show (D.cs.map (xU n)).length≤20∧(D.cs.map (xU n)).length≤c2
          rw [List.length_map]
          exact ⟨h.cs.1,l2⟩
        have hdv2:dv (yM D n (some ⟨g1,0,none⟩) c1 (some ⟨g2,0,none⟩) c2)=.agg #[.slice D.ta D.ts.length D.tc,.slice D.ga D.gs.length D.gc,.slice D.oa D.os.length D.oc,.slice (some ⟨g1,0,none⟩) D.hs.length c1,.slice (some ⟨g2,0,none⟩) D.cs.length c2]:=by
         show Value.agg #[_,_,_,.slice _ (D.hs.map (Yf n)).length _,.slice _ (D.cs.map (xU n)).length _]=_
         rw [List.length_map,List.length_map]
         rfl
        have hS:RHL [(⟨w.heap.size,0,none⟩,.slice D.ta D.ts.length D.tc),(⟨w.heap.size,1,none⟩,.slice D.ga D.gs.length D.gc),(⟨w.heap.size,2,none⟩,.slice D.oa D.os.length D.oc),(⟨w.heap.size,3,none⟩,.slice D.ha D.hs.length D.hc),(⟨w.heap.size,4,none⟩,.slice D.ca D.cs.length D.cc),(⟨W1.heap.size,0,none⟩,.slice D.ta D.ts.length D.tc),(⟨W1.heap.size,1,none⟩,.slice D.ga D.gs.length D.gc),(⟨W1.heap.size,2,none⟩,.slice D.oa D.os.length D.oc),(⟨W1.heap.size,3,none⟩,.slice (some ⟨g1,0,none⟩) D.hs.length c1),(⟨W1.heap.size,4,none⟩,.slice (some ⟨g2,0,none⟩) D.cs.length c2)] X X:=by
         obtain ⟨k0,k1,k2,k3,k4⟩:=H5.out.keep (bcl HB1.out hBx)
         exact ⟨k0,k1,k2,k3,k4,HM.out.cell HB5Y.out.c0 (fun e=>by simp only at e;omega),HM.out.cell HB5Y.out.c1 (fun e=>by simp only at e;omega),HM.out.cell HB5Y.out.c2 (fun e=>by simp only at e;omega),HM.out.cell HB5Y.out.c3 (fun e=>by simp only at e;omega),HM.out.cell HB5Y.out.c4 (fun e=>by simp only at e;omega),Below.refl _ _⟩
        have hck:=fun V (hB:Below X.heap.size X V)=>Qs (yM D n (some ⟨g1,0,none⟩) c1 (some ⟨g2,0,none⟩) c2) V (hdX.keep hB) hsX
        have hro:=fun V (hB:Below X.heap.size X V)=>HRO.out V (bcl hBX hB)
        rw [hdv2] at hck
        have HCK:=Lib.hid hck
        have HRX:=Lib.hid hro
        have HH:=Lib.hid (And.intro hd (And.intro hdX (And.intro hsX (And.intro hdv2 hBX))))
        clear hck hro hd hdX hsX hdv2 hBX hA hR2 HR2 HA HOB HB5Y HBY HB5 HO HBZ HM hBx hk hlt HR HT hg1 hg2
        obtain ⟨C,hC⟩:∃C,checkN (yM D n (some ⟨g1,0,none⟩) c1 (some ⟨g2,0,none⟩) c2)=C:=⟨_,rfl⟩
        rw [hC] at HCK
        have HC:=Lib.hid hC
        clear hC
        have hS0:=hS
        obtain ⟨k0,k1,k2,k3,k4,o0,o1,o2,o3,o4,-⟩:=hS0
        by_cases hC0:C=0
        rotate_left 1
        ·have hne:(C != 0)=true:=by simpa using hC0
         go_wp2_with (first | (go_at_call 23;(with_reducible refine (HCK.out _ (RHL.bel hS)).mono ?_);rintro e V1 ⟨rfl,hB1⟩;replace hS:=RHL.call hS hB1) | (go_at_call 8;(with_reducible refine (HRX.out _ (RHL.bel hS)).mono ?_);rintro e V2 ⟨rfl,hB2⟩))
         go_ret
         rfl
        subst hC0
        obtain ⟨hd,hdX,hsX,hdv2,hBX⟩:=HH.out
        obtain ⟨_,hs,hz,hG,hdv,_,_⟩:=HD.out
        have hpl:=QW D n (some ⟨g1,0,none⟩) c1 (some ⟨g2,0,none⟩) c2
        have hask:zf (yM D n (some ⟨g1,0,none⟩) c1 (some ⟨g2,0,none⟩) c2) 0=zf D 0:=by unfold zf;rw [HC.out,hz,hpl]
        have hG2:=fun V (hB:Below X.heap.size X V)=>hG.keep (bcl hBX hB)
        have hh1:=fun V (hB:Below X.heap.size X V)=>Xo D V (hd.keep hB) hs (hG2 V hB)
        have hh2:=fun V (hB:Below X.heap.size X V)=>Xo (yM D n (some ⟨g1,0,none⟩) c1 (some ⟨g2,0,none⟩) c2) V (hdX.keep hB) hsX (hG2 V hB)
        have hl1:=fun V (hB:Below X.heap.size X V)=>(Xt D V (hd.keep hB) hs (hG2 V hB)).mono fun e w' h=>qaJ h
        have hl2:=fun V (hB:Below X.heap.size X V)=>(Xt (yM D n (some ⟨g1,0,none⟩) c1 (some ⟨g2,0,none⟩) c2) V (hdX.keep hB) hsX (hG2 V hB)).mono fun e w' h=>qaJ h
        have hm1:=fun V (hB:Below X.heap.size X V)=>(Xu D V (hd.keep hB) hs (hG2 V hB)).mono fun e w' h=>qeR h
        have hm2:=fun V (hB:Below X.heap.size X V)=>(Xu (yM D n (some ⟨g1,0,none⟩) c1 (some ⟨g2,0,none⟩) c2) V (hdX.keep hB) hsX (hG2 V hB)).mono fun e w' h=>qeR h
        unfold HistP at hh1 hh2
        rw [hask] at hl2 hm2
        rw [qbW] at hl2
        rw [qdX] at hm2
        rw [hpl,HC.out] at hh2
        rw [hz] at hh1
        rw [hdv] at hh1 hl1 hm1
        rw [hdv2] at hh2 hl2 hm2
        simp only [ne_eq,not_true_eq_false,if_false] at hh1 hh2
        generalize (if zf D 0≠0 then (0:Int) else (Yg D).getD 0 0)=p at hl1 hl2
        generalize (if zf D 0≠0 then (0:Int) else (Yg D).getD ((Yg D).length - 1) 0)=q at hl1 hl2
        generalize (if zf D 0≠0 then (0:Int) else (qag D).1)=r at hm1 hm2
        generalize (if zf D 0≠0 then (0:Int) else (qag D).2)=s at hm1 hm2
        generalize zf D 0=al at hl1 hl2 hm1 hm2
        generalize (qo D).length=np at hh1 hh2
        have HH1:=Lib.hid hh1
        have HH2:=Lib.hid hh2
        have HL1:=Lib.hid hl1
        have HL2:=Lib.hid hl2
        have HM1:=Lib.hid hm1
        have HM2:=Lib.hid hm2
        clear hh1 hh2 hl1 hl2 hm1 hm2 hd hdX hsX hdv2 hBX hs hz hG hdv hpl hask hG2 HH HD HC
        go_upto_region 15 with (go_at_call 23;(with_reducible refine (HCK.out _ (bcl (RHL.bel hS) (by first | exact Below.refl _ _ | go_grown))).mono ?_);rintro e V15 ⟨rfl,hB1⟩;replace hS:=RHL.call hS (bcl (by first | exact Below.refl _ _ | go_grown) hB1);clear hB1 k0 k1 k2 k3 k4 o0 o1 o2 o3 o4;have hS0:=hS;obtain ⟨k0,k1,k2,k3,k4,o0,o1,o2,o3,o4,-⟩:=hS0)
        go_upto_region 16 with (go_at_call 24;(with_reducible refine (HH1.out _ (bcl (RHL.bel hS) (by first | exact Below.refl _ _ | go_grown))).mono ?_);rintro e V16 ⟨rfl,hB1⟩;replace hS:=RHL.call hS (bcl (by first | exact Below.refl _ _ | go_grown) hB1);clear hB1 k0 k1 k2 k3 k4 o0 o1 o2 o3 o4;have hS0:=hS;obtain ⟨k0,k1,k2,k3,k4,o0,o1,o2,o3,o4,-⟩:=hS0)
        go_upto_region 17 with (go_at_call 24;(with_reducible refine (HH2.out _ (bcl (RHL.bel hS) (by first | exact Below.refl _ _ | go_grown))).mono ?_);rintro e V17 ⟨rfl,hB1⟩;replace hS:=RHL.call hS (bcl (by first | exact Below.refl _ _ | go_grown) hB1);clear hB1 k0 k1 k2 k3 k4 o0 o1 o2 o3 o4;have hS0:=hS;obtain ⟨k0,k1,k2,k3,k4,o0,o1,o2,o3,o4,-⟩:=hS0)
        go_upto_region 18 with (go_at_call 16;(with_reducible refine (HL1.out _ (bcl (RHL.bel hS) (by first | exact Below.refl _ _ | go_grown))).mono ?_);rintro e V18 ⟨rfl,hB1⟩;replace hS:=RHL.call hS (bcl (by first | exact Below.refl _ _ | go_grown) hB1);clear hB1 k0 k1 k2 k3 k4 o0 o1 o2 o3 o4;have hS0:=hS;obtain ⟨k0,k1,k2,k3,k4,o0,o1,o2,o3,o4,-⟩:=hS0)
        obtain ⟨P1,hP⟩:∃P,V18.alloc (Obj.cells #[.int .i64 p,.int .i64 q] 40)=P:=⟨_,rfl⟩
        have hBP:Below V18.heap.size V18 P1:=by subst hP;go_grown
        have pP10:P1.cell? ⟨V18.heap.size,0,none⟩=some (.int .i64 p):=by subst hP;go_cell
        have pP11:P1.cell? ⟨V18.heap.size,1,none⟩=some (.int .i64 q):=by subst hP;go_cell
        rw [hP]
        replace hS:=RHL.call hS hBP
        clear hP hBP k0 k1 k2 k3 k4 o0 o1 o2 o3 o4
        have hS0:=hS
        obtain ⟨k0,k1,k2,k3,k4,o0,o1,o2,o3,o4,-⟩:=hS0
        go_upto_region 19 with (go_at_call 16;(with_reducible refine (HL2.out _ (RHL.bel hS)).mono ?_);rintro e V19 ⟨rfl,hB1⟩;replace hS:=RHL.call hS hB1;replace pP10:=qb _ hB1 pP10;replace pP11:=qb _ hB1 pP11;clear hB1 k0 k1 k2 k3 k4 o0 o1 o2 o3 o4;have hS0:=hS;obtain ⟨k0,k1,k2,k3,k4,o0,o1,o2,o3,o4,-⟩:=hS0)
        obtain ⟨P2,hP⟩:∃P,V19.alloc (Obj.cells #[.int .i64 p,.int .i64 q] 40)=P:=⟨_,rfl⟩
        have hBP:Below V19.heap.size V19 P2:=by subst hP;go_grown
        have pP20:P2.cell? ⟨V19.heap.size,0,none⟩=some (.int .i64 p):=by subst hP;go_cell
        have pP21:P2.cell? ⟨V19.heap.size,1,none⟩=some (.int .i64 q):=by subst hP;go_cell
        rw [hP]
        replace hS:=RHL.call hS hBP
        replace pP10:=qb _ hBP pP10
        replace pP11:=qb _ hBP pP11
        clear hP hBP k0 k1 k2 k3 k4 o0 o1 o2 o3 o4
        have hS0:=hS
        obtain ⟨k0,k1,k2,k3,k4,o0,o1,o2,o3,o4,-⟩:=hS0
        go_upto_region 20 with (go_at_call 25;(with_reducible refine (HM1.out _ (RHL.bel hS)).mono ?_);rintro e V20 ⟨rfl,hB1⟩;replace hS:=RHL.call hS hB1;replace pP10:=qb _ hB1 pP10;replace pP11:=qb _ hB1 pP11;replace pP20:=qb _ hB1 pP20;replace pP21:=qb _ hB1 pP21;clear hB1 k0 k1 k2 k3 k4 o0 o1 o2 o3 o4;have hS0:=hS;obtain ⟨k0,k1,k2,k3,k4,o0,o1,o2,o3,o4,-⟩:=hS0)
        go_upto_region 21 with (go_at_call 25;(with_reducible refine (HM2.out _ (RHL.bel hS)).mono ?_);rintro e V21 ⟨rfl,hB1⟩;replace hS:=RHL.call hS hB1;replace pP10:=qb _ hB1 pP10;replace pP11:=qb _ hB1 pP11;replace pP20:=qb _ hB1 pP20;replace pP21:=qb _ hB1 pP21;clear hB1 k0 k1 k2 k3 k4 o0 o1 o2 o3 o4;have hS0:=hS;obtain ⟨k0,k1,k2,k3,k4,o0,o1,o2,o3,o4,-⟩:=hS0)
        have q1:(al == al)=true:=by simp
        have q2:(p == p && q == q)=true:=by simp
        have q3:(r == r)=true:=by simp
        have q4:(s == s)=true:=by simp
        have q5:((np:Int) == (np:Int))=true:=by simp
        clear HCK HH1 HH2 HL1 HL2 HM1 HM2 k0 k1 k2 k3 k4 o0 o1 o2 o3 o4
        go_wp2_with (go_at_call 8;(with_reducible refine (HRX.out _ (RHL.bel hS)).mono ?_);rintro e V22 ⟨rfl,hB5⟩)
        go_ret
        rfl
end Go.Proofs.Tryz
