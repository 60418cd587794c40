/-
  Lemmas about the program and the machine (Q16 to Q16), upon which the last text of this claim rests; no condition.
-/
import Derived.WalkMore
import Derived.Deep.RegionLaw
import Derived.Deep.CutBlock
import Derived.Test.YtjkenojgabamiaaGreatDoorD05
set_option linter.unusedSimpArgs false
set_option linter.unusedVariables false
namespace Go.Proofs.Tryz
open Go Go.Load Go.RowKit Go.Maps
def KN (D:DayM) (M:Nat) (A:Nat→Prop) (W:World):Prop:=∃f,jH qL W M f∧∀s v,f s=some v→∃a c,v=.slice a (qG D s).length c∧(qG D s).length≤c∧qh W 1 encI a (qG D s)∧∀p,a=some p→p.block < W.heap.size∧¬ A p.block
theorem map_cell {W:World} {M:Nat} {f:SetM→Option Value} (h:jH qL W M f) {p:Addr} {v:Value} (hc:W.cell? p=some v):p.block≠M:=by
 obtain ⟨es,cl,L,h1,_⟩:=h
 intro e
 unfold World.cell? at hc
 rw [e,h1] at hc
 simp at hc
theorem jC {W W1:World} {M:Nat} {f:SetM→Option Value} {α:Type} {k:Nat} {enc:α→List Value} {a:Option Addr} {l:List α} (h:jH qL W M f) (hr:qh W k enc a l) (hg:W.grownBy W1 (some M)):qh W1 k enc a l:=fun hl=>by
 obtain ⟨b,o,e,hr⟩:=hr hl
 exact ⟨b,o,e,fun i x hx j v hv=>qI hg (hr i x hx j v hv) (map_cell h (hr i x hx j v hv))⟩
theorem KN.keep {D:DayM} {M:Nat} {A:Nat→Prop} {W W1:World} (h:KN D M A W) (hB:Below W.heap.size W W1):KN D M A W1:=by
 obtain ⟨f,h1,h2⟩:=h
 exact ⟨f,h1.keep hB,fun s v hv=>let ⟨a,c,e,l,r,z⟩:=h2 s v hv;⟨a,c,e,l,r.keep hB,fun p hp=>⟨Nat.lt_of_lt_of_le (z p hp).1 hB.size,(z p hp).2⟩⟩⟩
theorem KN.own {D:DayM} {M:Nat} {A A':Nat→Prop} {W W1:World} {r:Option Nat} (h:KN D M A W) (hg:W.grownBy W1 r) (hr:∀b,r=some b→A b∧b≠M) (hA:∀b,A' b→A b∨W.heap.size≤b):KN D M A' W1:=by
 obtain ⟨f,h1,h2⟩:=h
 refine ⟨f,h1.block (hg.block M h1.lt (fun e=>(hr M e.symm).2 rfl)),fun s v hv=>?_⟩
 obtain ⟨a,c,e,l,q,z⟩:=h2 s v hv
 refine ⟨a,c,e,l,fun hl=>?_,fun p hp=>⟨Nat.lt_of_lt_of_le (z p hp).1 hg.size,fun h9=>?_⟩⟩
 ·obtain ⟨b,o,rfl,hq⟩:=q hl
  have hb:=z _ rfl
  exact ⟨b,o,rfl,fun i x hx j v hv=>hg.cell (hq i x hx j v hv) (fun e=>hb.2 (hr _ e.symm).1)⟩
 ·rcases hA _ h9 with h9 | h9
  ·exact (z p hp).2 h9
  ·have:=(z p hp).1;omega
theorem PI.outat {tb:Nat} {wr:World} {tv:Value} {outs:List Int} {took:List WayM} {a:Option Addr} {n c:Nat} (h:PI tb wr (.slice a n c) outs tv took):∀p,a=some p→tb < p.block∧p.block < wr.heap.size:=by
 intro p e
 subst e
 obtain ⟨_,⟨e,_⟩ | ⟨g,cap,cur,e,hb,hg,_⟩⟩:=h.o1
 ·cases e
 ·cases e
  exact ⟨hb,(Array.getElem?_eq_some_iff.1 hg).1⟩
theorem KN.lt {D:DayM} {M:Nat} {A:Nat→Prop} {W:World} (h:KN D M A W):M < W.heap.size:=by obtain ⟨f,h1,_⟩:=h;exact h1.lt
set_option maxRecDepth 100000 in
theorem away_all:(List.range 256).all (fun a=>(List.range 9).all fun k=>(bits BinOp.and IntKind.u64 ((a:Int) / 2 ^ min k 64) 1 == 1) == jQ a k)=true:=by decide +kernel
theorem qaH {a:Int} (h:0≤a∧a < 256) {k:Nat} (hk:k < 9):(bits BinOp.and IntKind.u64 (a / 2 ^ min k 64) 1 == 1)=jQ a k:=by
 obtain ⟨n,rfl⟩:=Int.eq_ofNat_of_zero_le h.1
 have e:=away_all
 rw [List.all_eq_true] at e
 have e:=e n (List.mem_range.2 (by omega))
 rw [List.all_eq_true] at e
 simpa using e k (List.mem_range.2 hk)
set_option maxHeartbeats 8000000 in
set_option maxRecDepth 100000 in
theorem play_any (D:DayM) (s:SetM) (hord:s.order < 0) (M:Nat) (w0 w:World) (hB:Below w0.heap.size w0 w) (hM:w0.heap.size≤M) (h:DayAt w0 D) (hs:DaySm D) (hok:DayOK D) (hps:∀g,0≤s.p.get g∧s.p.get g≤100) (haw:0≤s.away∧s.away < 256) (A:Nat→Prop) (hA:∀b,A b→b < w.heap.size) (hK:KN D M A w) :
 Calls qj 38 #[dm D (some M),qL s] w fun e w'=>(∃a c,e=.returned (.slice a (qG D s).length c)∧(qG D s).length≤c∧qh w' 1 encI a (qG D s))∧KN D M A w'∧w.grownBy w' (some M):=by
 have hD:=h.keep hB
 have hml:=hK.lt
 obtain ⟨f,hf,hfs⟩:=hK
 have hwo:=fun c W (hB:Below w.heap.size w W)=>jG D (some M) c W (hD.keep hB) hs
 unfold dm qL
 unfold dm cvC at hwo
 cases hfv:f s with
 | some v =>
   obtain ⟨a,c,rfl,hlc,hr,_⟩:=hfs s v hfv
   have hKB:∀W,Below w.heap.size w W→KN D M A W:=fun W hB=>KN.keep ⟨f,hf,hfs⟩ hB
   have hRB:∀W,Below w.heap.size w W→qh W 1 encI a (qG D s):=fun W hB=>hr.keep hB
   have HL:=Lib.hid fun W (hB:Below w.heap.size w W)=>yj qed (hf.keep hB) s true
   have HKB:=Lib.hid hKB
   clear hA
   have HRB:=Lib.hid hRB
   generalize qG D s=R at *
   have HLC:=Lib.hid hlc
   simp only [hfv,qL,Option.getD_some,Option.isSome_some,if_true] at HL
   clear hf hfs hfv hr hKB hRB h hs hok hD hwo hlc hps
   obtain ⟨⟨pa,pb,pc,pd⟩,aw,od,t0,t1,t2⟩:=s
   obtain ⟨ts,ta,tc,gs,ga,gc,os,oa,oc,hs,ha,hc,cs,ca,cc⟩:=D
   simp only at *
   have hlk:=HL.out ((w.alloc (Obj.cells #[.slice ta ts.length tc,.slice ga gs.length gc,.slice oa os.length oc,.slice ha hs.length hc,.slice ca cs.length cc,.map (some M)] 74)).alloc (Obj.cells #[.int .i64 pa,.int .i64 pb,.int .i64 pc,.int .i64 pd,.int .u64 aw,.int .i64 od,.int .i64 t0,.int .i64 t1,.int .i64 t2] 87)) (by go_grown)
   go_enter (sf 38 f38),ntmps38
   go_wp2
   go_step3
   go_wp2
   rw [Exit.noGoto_ret]
   go_ret
   exact ⟨⟨a,c,rfl,HLC.out,HRB.out _ (by go_grown)⟩,HKB.out _ (by go_grown),qi (by go_grown)⟩
 | none =>
   have HL:=Lib.hid fun W (hB:Below w.heap.size w W)=>yj qed (hf.keep hB) s true
   have HF:=Lib.hid (And.intro hf hfs)
   have HAV:=Lib.hid hA
   clear hA
   simp only [hfv,qL,Option.getD_none,Option.isSome_none,if_true] at HL
   have hPL:zW D s 0 [] D.cs=qG D s:=rfl
   have HWO:=Lib.hid hwo
   have HD:=Lib.hid hD
   have HS:=Lib.hid hs
   have HOK:=Lib.hid hok
   have HPS:=Lib.hid hps
   generalize hPN:qG D s=R at *
   clear hf hfs hwo hD hs hok hps h hfv
   obtain ⟨x0,hx0⟩:∃x,Value.slice D.ta D.ts.length D.tc=x:=⟨_,rfl⟩
   obtain ⟨x1,hx1⟩:∃x,Value.slice D.ga D.gs.length D.gc=x:=⟨_,rfl⟩
   obtain ⟨x2,hx2⟩:∃x,Value.slice D.oa D.os.length D.oc=x:=⟨_,rfl⟩
   obtain ⟨x3,hx3⟩:∃x,Value.slice D.ha D.hs.length D.hc=x:=⟨_,rfl⟩
   have HX:=Lib.hid (And.intro hx0 (And.intro hx1 (And.intro hx2 hx3)))
   rw [hx0,hx1,hx2,hx3]
   obtain ⟨cs,hcs⟩:∃l,D.cs=l:=⟨_,rfl⟩
   obtain ⟨ca,hca⟩:∃l,D.ca=l:=⟨_,rfl⟩
   obtain ⟨cc,hcc2⟩:∃l,D.cc=l:=⟨_,rfl⟩
   have HCS:Hid (qh w 5 Qc ca cs):=Lib.hid (by rw [← hcs,← hca];exact HD.out.cs)
   have HPL:Hid (zW D s 0 [] cs=R):=Lib.hid (by rw [← hcs];exact hPL)
   have hcl:cs.length≤8:=by rw [← hcs];exact HOK.out.cs
   have hcc:cs.length≤cc:=by rw [← hcs,← hcc2];exact HS.out.cs.2
   have hRl:R.length=cs.length:=by rw [← hcs,← hPN];exact qX D s
   have HPN:=Lib.hid hPN
   clear hPL hPN
   have HC:=Lib.hid (And.intro hcs (And.intro hca hcc2))
   rw [hcs,hca,hcc2]
   have HWO2:Hid (∀c W,Below w.heap.size w W→Calls qj 50 #[.agg #[x0,x1,x2,x3,.slice ca cs.length cc,.map (some M)],.agg #[.int .i64 c.fr,.int .i64 c.toT,.int .i64 c.co,.int .i64 c.cl,.int .i64 c.se]] W fun e w'=>e=.returned (YE D c)∧Below W.heap.size W w'):=Lib.hid (by rw [← hx0,← hx1,← hx2,← hx3,← hcs,← hca,← hcc2];exact HWO.out)
   have HB6:Hid (∀X b,B6 X b x0 x1 x2 x3 (.slice ca cs.length cc) (.map (some M))→B6 X b (.slice D.ta D.ts.length D.tc) (.slice D.ga D.gs.length D.gc) (.slice D.oa D.os.length D.oc) (.slice D.ha D.hs.length D.hc) (.slice D.ca D.cs.length D.cc) (.map (some M))):=Lib.hid (by rw [hx0,hx1,hx2,hx3,hcs,hca,hcc2];exact fun _ _ h=>h)
   clear hx0 hx1 hx2 hx3
   have hlk:=HL.out ((w.alloc (Obj.cells #[x0,x1,x2,x3,.slice ca cs.length cc,.map (some M)] 74)).alloc (Obj.cells #[.int .i64 s.p.a,.int .i64 s.p.b,.int .i64 s.p.c,.int .i64 s.p.d,.int .u64 s.away,.int .i64 s.order,.int .i64 s.t0,.int .i64 s.t1,.int .i64 s.t2] 87)) (by go_grown)
   clear hcs hca hcc2
   go_enter (sf 38 f38),ntmps38
   go_wp2
   go_step3
   go_wp2
   go_step3
   obtain ⟨W,hW⟩:∃W,((w.alloc (Obj.cells #[x0,x1,x2,x3,.slice ca cs.length cc,.map (some M)] 74)).alloc (Obj.cells #[.int .i64 s.p.a,.int .i64 s.p.b,.int .i64 s.p.c,.int .i64 s.p.d,.int .u64 s.away,.int .i64 s.order,.int .i64 s.t0,.int .i64 s.t1,.int .i64 s.t2] 87)).alloc (Obj.cells #[.slice none 0 0] 49)=W:=⟨_,rfl⟩
   have h6:B6 W w.heap.size x0 x1 x2 x3 (.slice ca cs.length cc) (.map (some M)):=by subst hW;exact ⟨by go_cell,by go_cell,by go_cell,by go_cell,by go_cell,by go_cell⟩
   have hBW:Below w.heap.size w W:=by subst hW;go_grown
   have e0:W.cell? ⟨w.heap.size+1,0,none⟩=some (.int .i64 s.p.a):=by subst hW;go_cell
   have e1:W.cell? ⟨w.heap.size+1,1,none⟩=some (.int .i64 s.p.b):=by subst hW;go_cell
   have e2:W.cell? ⟨w.heap.size+1,2,none⟩=some (.int .i64 s.p.c):=by subst hW;go_cell
   have e3:W.cell? ⟨w.heap.size+1,3,none⟩=some (.int .i64 s.p.d):=by subst hW;go_cell
   have e4:W.cell? ⟨w.heap.size+1,4,none⟩=some (.int .u64 s.away):=by subst hW;go_cell
   have e6:W.cell? ⟨w.heap.size+1,6,none⟩=some (.int .i64 s.t0):=by subst hW;go_cell
   have e7:W.cell? ⟨w.heap.size+1,7,none⟩=some (.int .i64 s.t1):=by subst hW;go_cell
   have e8:W.cell? ⟨w.heap.size+1,8,none⟩=some (.int .i64 s.t2):=by subst hW;go_cell
   have e5:W.cell? ⟨w.heap.size+1,5,none⟩=some (.int .i64 s.order):=by subst hW;go_cell
   have hPI:PI (w.heap.size+1+1) W (.slice none 0 0) [] (.slice none 0 0) []:=by
    subst hW
    exact ⟨by go_cell,by go_cell,World.ownsRow_nil _ _ _ _,World.ownsRow_nil _ _ _ _,fun b hb=>by cases hb⟩
   have hsz:W.heap.size=w.heap.size+1+1+1:=by subst hW;simp
   have k1:=h6.c4
   go_wp2
   try rw [hW]
   clear hW k1 hlk
   go_loopw [29,7] (fun i q wr=>∃(k:Nat) (outs:List Int) (took:List WayM) (tv ov:Value),i=.int .i64 k∧ov=q∧k≤cs.length∧Below (w.heap.size+1+1) W wr∧PI (w.heap.size+1+1) wr ov outs tv took∧outs.length=k∧took.length=k∧(∀x∈took,(x.l.length≤20∧x.l.length≤x.c)∧qh w 1 encI x.a x.l)∧Hid (outs ++ zW D s k took (cs.drop k)=R)) (fun i _ _=>cs.length - (intOf i).toNat)
   case atStart=>exact ⟨0,[],[],.slice none 0 0,.slice none 0 0,rfl,rfl,by omega,Below.refl _ _,hPI,rfl,rfl,by simp,Lib.hid (by simpa using HPL.out)⟩
   case round =>
    obtain ⟨k,outs,took,tv,ov,rfl,rfl,hk,hBr,hI,ho,ht,hTK,HE⟩:=hrel
    have hlo:∀{p:Addr} {v:Value},p.block < w.heap.size+1+1→W.cell? p=some v→wr.cell? p=some v:=fun hp hc=>(hBr.cell hp).trans hc
    have k0:=hlo (by simp <;> omega) h6.c0
    have k1:=hlo (by simp <;> omega) h6.c1
    have k2:=hlo (by simp <;> omega) h6.c2
    have k3:=hlo (by simp <;> omega) h6.c3
    have k4:=hlo (by simp <;> omega) h6.c4
    have k5:=hlo (by simp <;> omega) h6.c5
    have e0:=hlo (by simp <;> omega) e0
    have e1:=hlo (by simp <;> omega) e1
    have e2:=hlo (by simp <;> omega) e2
    have e3:=hlo (by simp <;> omega) e3
    have e4:=hlo (by simp <;> omega) e4
    have e5:=hlo (by simp <;> omega) e5
    have hBw:Below w.heap.size w wr:=hBW.trans (hBr.mono (by omega))
    have tq:=hI.c
    have hzt:=lt_of_cell tq
    simp only at hzt
    have hz1:w.heap.size+1 < wr.heap.size:=by omega
    have hz0:w.heap.size < wr.heap.size:=by omega
    have H6:=Lib.hid h6
    have HI:=Lib.hid hI
    have HTK:=Lib.hid hTK
    clear hI hTK hlo
    by_cases hlt:k < cs.length
    ·obtain ⟨c,hx⟩:∃x,cs[k]? = some x:=⟨cs[k],by simp [hlt]⟩
     obtain ⟨ab,ao,rfl,hP⟩:=HCS.out (by omega)
     have hkc:(k:Int)≤(cc:Int):=by omega
     have c0:=qb _ hBw (hP k c hx 0 _ rfl)
     have c1:=qb _ hBw (hP k c hx 1 _ rfl)
     have c2:=qb _ hBw (hP k c hx 2 _ rfl)
     have c3:=qb _ hBw (hP k c hx 3 _ rfl)
     have c4:=qb _ hBw (hP k c hx 4 _ rfl)
     simp only [Nat.add_zero] at c0
     have hst:outs ++ zW D s k took (cs.drop k)=(outs ++ [(Za D s k took c).1]) ++ zW D s (k+1) (took ++ [(Za D s k took c).2]) (cs.drop (k+1)):=by
      obtain ⟨hk1,rfl⟩:=List.getElem?_eq_some_iff.1 hx
      rw [List.drop_eq_getElem_cons hk1,zW]
      simp
     have HS2:=Lib.hid (hst.symm.trans HE.out)
     clear hst hP hx
     have hbit:=qaH haw (k:=k) (by omega)
     have hbit2:=hbit
     rw [Nat.min_eq_left (show k≤64 by omega)] at hbit2
     by_cases haway:jQ s.away k=true
     ·rw [haway] at hbit hbit2
      obtain ⟨i0,hi,hz0,hz1,hz2⟩:=info_parts Xq
      obtain ⟨j0,hj,jz0,jz1,jz2⟩:=info_parts Ye
      have hnt:Za D s k took c=(-2,Yz):=by unfold Za;rw [if_pos haway]
      rw [hnt] at HS2
      replace HS2:=Lib.hid (show outs ++ [-2] ++ zW D s (k+1) (took ++ [Yz]) (cs.drop (k+1))=R from HS2.out)
      have HT2:Hid (∀x∈took ++ [Yz],(x.l.length≤20∧x.l.length≤x.c)∧qh w 1 encI x.a x.l):=Lib.hid (by
       intro x hx
       rw [List.mem_append,List.mem_singleton] at hx
       rcases hx with hx | rfl
       ·exact HTK.out x hx
       ·exact ⟨⟨by decide,by decide⟩,fun h=>absurd h (by decide)⟩)
      clear haway hnt
      go_upto_region 10 with fail
      go_cut [7] from 40 to 45 (fun q wx=>∃tv',PI (w.heap.size+1+1) wx q (outs ++ [-2]) tv' (took ++ [Yz])∧Below (w.heap.size+1+1) W wx)
      case first =>
       go_wp2_with fail
       refine wp_region_any (by kernel_rfl) ?_;try (change wpAny _ _ _ _ _ _ _ (World.drew _))
       (refine wpAny_take (i:=0) (v:=?_) rfl (by kernel_rfl) (by kernel_rfl) (by kernel_rfl) (fun _ _ _ h=>h) (Or.inl ⟨by rfl,?_⟩) ?_;rotate_left 1;focus (intro w;go_simp;first | done | with_reducible rfl);try simp only [zs,Act.put])
       all_goals first | refine wpAny_ready (rs:=[1,3,4]) (by decide +kernel) (by simp) ?_
       all_goals repeat' first | exact AllReady.nil | refine AllReady.cons rfl (fun K hK=>?_) ?_
       all_goals (go_simp;refine hK _ _ ?_)
       all_goals (clear hK K;try simp only [zs,Act.put])
       iterate 3
        all_goals first | refine wpAny_ready (rs:=[2,3,4]) (by decide +kernel) (by simp) ?_ | refine wpAny_ready (rs:=[1,4]) (by decide +kernel) (by simp) ?_ | refine wpAny_ready (rs:=[1,3]) (by decide +kernel) (by simp) ?_ | refine wpAny_ready (rs:=[3,4]) (by decide +kernel) (by simp) ?_ | refine wpAny_ready (rs:=[2,4]) (by decide +kernel) (by simp) ?_ | refine wpAny_ready (rs:=[2,3]) (by decide +kernel) (by simp) ?_ | refine wpAny_ready (rs:=[1]) (by decide +kernel) (by simp) ?_ | refine wpAny_ready (rs:=[4]) (by decide +kernel) (by simp) ?_ | refine wpAny_ready (rs:=[3]) (by decide +kernel) (by simp) ?_ | refine wpAny_ready (rs:=[2]) (by decide +kernel) (by simp) ?_
        all_goals repeat' first | exact AllReady.nil | refine AllReady.cons rfl (fun K hK=>?_) ?_
        all_goals first | (refine step_append_lies _ (by rfl) (.tmp 40) (.tmp 41) 31 (by rfl) (w.heap.size+1+1+1) 3 i0 (.int .i64 0) 1 8 ((qy _).trans Tryz.underlying31) hi hz0 hz1 hz2 rfl (by omega) _ _ _ (by rfl) ((HI.out.keep (by go_grown)).o1) _ 1 1 [.int .i64 (-2)] (by rfl) (by rfl) (jv (by go_cell)) (by simp [Value.oneCell']) (by omega) (by unfold maxLen;omega) (by omega) (by simp;omega) _ rfl ?_;intro g1 c1 Y1 n1 q1 a1 b1;obtain ⟨y1,y2⟩:=PI.hold HI.out (by go_grown) q1;have hzy:=lt_of_cell y1;simp only at hzy;refine hK _ _ ?_) | (go_simp;refine hK _ _ ?_)
        all_goals (clear hK K;try simp only [zs,Act.put])
       all_goals first | refine wpAny_ready (rs:=[5]) (by decide +kernel) (by simp) ?_
       all_goals repeat' first | exact AllReady.nil | refine AllReady.cons rfl (fun K hK=>?_) ?_
       all_goals
        refine step_append_lies _ (by rfl) (.tmp 43) (.tmp 44) 49 (by rfl) (w.heap.size+1+1+1) 31 j0 (.slice none 0 0) 1 24 ((qy _).trans Tryz.underlying49) hj jz0 jz1 jz2 rfl (by omega) _ _ _ (by first | rfl | (rw [ht];rfl)) (PI.own2 HI.out (by go_grown) q1 (by first | exact Below.refl _ _ | go_grown)) _ 1 1 [.slice none 0 0] (by rfl) (by rfl) (jv (by first | assumption | go_cell | exact q1.cell (by go_cell) (fun e=>by have h9:=(HI.out.o1.lt _ e.symm).2;simp only at h9;omega))) (by simp [Value.oneCell']) (by omega) (by unfold maxLen;omega) (by omega) (by first | omega | (simp;omega)) _ rfl ?_
        intro g2 c2 Y2 n2 q2 a2 b2
        refine hK _ _ ?_
        obtain ⟨p2,hB2⟩:=PI.step (x:=Yz) HI.out (by go_grown) q1 n1 a1 (by first | exact Below.refl _ _ | go_grown) q2 n2 a2
        obtain ⟨u1,u2⟩:=PI.hold2 HI.out (by go_grown) q1 (by first | exact Below.refl _ _ | go_grown) q2
        clear hK K
        try simp only [zs,Act.put]
        (refine wpAny_ready (rs:=[6]) (by kernel_rfl) (by simp) ?_;refine AllReady.cons rfl (fun K hK=>?_) AllReady.nil;go_simp;refine hK _ _ ?_;clear hK K)
        (refine wpAny_ready (rs:=[7]) (by kernel_rfl) (by simp) ?_;refine AllReady.cons rfl (fun K hK=>?_) AllReady.nil;go_simp;refine hK _ _ ?_;clear hK K)
        refine wpAny_done (by kernel_rfl) ?_ _;try simp only [zs,Act.put]
        simp only [ho,ht] at p2 hB2
        go_wp2_with fail
        go_meet
        exact ⟨_,p2,hBr.trans hB2⟩
      case rest =>
       obtain ⟨tv',hp,hb⟩:=hcut
       go_wp2_with fail
       go_roundw
       case rel=>exact ⟨k+1,outs ++ [-2],took ++ [Yz],tv',_,rfl,rfl,by omega,hb,hp,by simp [ho],by simp [ht],HT2.out,HS2⟩
       case measure=>simp [intOf];omega
     ·have haf:jQ s.away k=false:=by simpa using haway
      rw [haf] at hbit hbit2
      have hnt:Za D s k took c=je D s took c (qJ D c).ws.length 0:=by unfold Za;rw [if_neg haway]
      rw [hnt] at HS2
      clear haway hnt haf
      have hwo:=HWO2.out c
      unfold YE at hwo
      have hwl0:(qJ D c).ws.length≤3:=by
       by_cases hz:zu D c < 0
       ·rw [zU hz];simp
       ·exact HOK.out.ws _ (List.mem_of_getElem? (zV (D:=D) (c:=c) (k:=(zu D c).toNat) (by omega)))
      have hwc:(qJ D c).ws.length≤(qJ D c).c:=by
       by_cases hz:zu D c < 0
       ·rw [zU hz];simp
       ·exact (HS.out.ws _ (List.mem_of_getElem? (zV (D:=D) (c:=c) (k:=(zu D c).toNat) (by omega)))).2
      have hwr:∀X,Below w.heap.size w X→qh X 1 xY (qJ D c).a (qJ D c).ws:=by
       intro X hX
       by_cases hz:zu D c < 0
       ·rw [zU hz];exact fun h=>absurd h (by decide)
       ·exact (HD.out.ws _ (List.mem_of_getElem? (zV (D:=D) (c:=c) (k:=(zu D c).toNat) (by omega)))).keep hX
      have hwx:∀x∈(qJ D c).ws,((x.l.length≤20∧x.l.length≤x.c)∧qh w 1 encI x.a x.l)∧∀k∈x.l,0≤k∧k < 4:=by
       intro x hx
       by_cases hz:zu D c < 0
       ·rw [zU hz] at hx;cases hx
       ·have hm:=List.mem_of_getElem? (zV (D:=D) (c:=c) (k:=(zu D c).toNat) (by omega))
        exact ⟨⟨HS.out.ls _ hm x hx,HD.out.ls _ hm x hx⟩,fun k hk=>by have:=HOK.out.ks _ hm x hx k hk;have:=HOK.out.gs;omega⟩
      have hwk:∀j,wayK D s c j=(qJ D c).ws.getD j Yz:=fun j=>by
       unfold wayK qeQ
       rw [if_neg]
       simp only [Bool.and_eq_true,decide_eq_true_eq]
       omega
      have HWR:=Lib.hid hwr
      have HWX:=Lib.hid hwx
      have HWK:=Lib.hid hwk
      clear hwr hwx hwk
      generalize (qJ D c).ws=ws at *
      generalize (qJ D c).a=wa at *
      generalize (qJ D c).c=wc at *
      go_wp2_with (go_at_call 50;(with_reducible refine (hwo _ (by go_grown)).mono ?_);rintro e w1 ⟨rfl,hB1⟩;have hB2:=Below.call (B:=wr.heap.size) (w:=wr) (by go_grown) hB1 (Nat.le_refl _);have e5:=qb _ hB2 e5;have d2:=qb ⟨wr.heap.size,2,none⟩ hB1 (v:=.int .i64 c.co) (by go_cell);clear hB1)
      have hng:¬ 0≤s.order:=by omega
      refine wp_region_any (by kernel_rfl) ?_;try (change wpAny _ _ _ _ _ _ _ (World.drew _))
      (refine wpAny_take (i:=0) (v:=?_) rfl (by kernel_rfl) (by kernel_rfl) (by kernel_rfl) (fun _ _ _ h=>h) (Or.inl ⟨by rfl,?_⟩) ?_;rotate_left 1;focus (intro w;go_simp;first | done | with_reducible rfl);try simp only [zs,Act.put])
      (refine wpAny_ready (rs:=[1]) (by kernel_rfl) (by simp) ?_;refine AllReady.cons rfl (fun K hK=>?_) AllReady.nil;go_simp;refine hK _ _ ?_;clear hK K)
      (refine wpAny_take (i:=2) (v:=?_) rfl (by kernel_rfl) (by kernel_rfl) (by kernel_rfl) (fun _ _ _ h=>h) (Or.inl ⟨by rfl,?_⟩) ?_;rotate_left 1;focus (intro w;go_simp;first | done | with_reducible rfl);try simp only [zs,Act.put])
      (refine wpAny_take (i:=3) (v:=?_) rfl (by kernel_rfl) (by kernel_rfl) (by kernel_rfl) (fun _ _ _ h=>h) (Or.inl ⟨by rfl,?_⟩) ?_;rotate_left 1;focus (intro w;go_simp;first | done | with_reducible rfl);try simp only [zs,Act.put])
      refine wpAny_take (i:=4) (v:=undef) rfl (by kernel_rfl) (by kernel_rfl) (by kernel_rfl) (fun _ _ _ h=>h) (Or.inr ⟨by kernel_rfl,rfl⟩) ?_;try simp only [zs,Act.put];refine wpAny_take (i:=5) (v:=undef) rfl (by kernel_rfl) (by kernel_rfl) (by kernel_rfl) (fun _ _ _ h=>h) (Or.inr ⟨by kernel_rfl,rfl⟩) ?_;try simp only [zs,Act.put];refine wpAny_take (i:=6) (v:=undef) rfl (by kernel_rfl) (by kernel_rfl) (by kernel_rfl) (fun _ _ _ h=>h) (Or.inr ⟨by kernel_rfl,rfl⟩) ?_;try simp only [zs,Act.put];refine wpAny_take (i:=7) (v:=undef) rfl (by kernel_rfl) (by kernel_rfl) (by kernel_rfl) (fun _ _ _ h=>h) (Or.inr ⟨by kernel_rfl,rfl⟩) ?_;try simp only [zs,Act.put];refine wpAny_take (i:=8) (v:=undef) rfl (by kernel_rfl) (by kernel_rfl) (by kernel_rfl) (fun _ _ _ h=>h) (Or.inr ⟨by kernel_rfl,rfl⟩) ?_;try simp only [zs,Act.put];refine wpAny_take (i:=9) (v:=undef) rfl (by kernel_rfl) (by kernel_rfl) (by kernel_rfl) (fun _ _ _ h=>h) (Or.inr ⟨by kernel_rfl,rfl⟩) ?_;try simp only [zs,Act.put]
      (refine wpAny_take (i:=10) (v:=?_) rfl (by kernel_rfl) (by kernel_rfl) (by kernel_rfl) (fun _ _ _ h=>h) (Or.inl ⟨by rfl,?_⟩) ?_;rotate_left 1;focus (intro w;go_simp;first | done | with_reducible rfl);try simp only [zs,Act.put])
      (refine wpAny_take (i:=11) (v:=?_) rfl (by kernel_rfl) (by kernel_rfl) (by kernel_rfl) (fun _ _ _ h=>h) (Or.inl ⟨by rfl,?_⟩) ?_;rotate_left 1;focus (intro w;go_simp;first | done | with_reducible rfl);try simp only [zs,Act.put])
      refine wpAny_done (by kernel_rfl) ?_ _;try simp only [zs,Act.put]
      have hzw1:=hB2.size
      have hBV0:Below wr.heap.size wr w1.drew:=hB2.drew
      have d2V:w1.drew.cell? ⟨wr.heap.size,2,none⟩=some (.int .i64 c.co):=d2
      have hzc:=lt_of_cell d2V
      simp only at hzc
      obtain ⟨V,hV⟩:∃V,w1.drew=V:=⟨_,rfl⟩
      rw [hV] at hBV0 d2V hzc ⊢
      clear hV e5 d2 hB2 hzw1 c0 c1 c2 c3 c4 hwo
      go_wp2_with fail
      have k0:=qb _ hBV0 k0
      have k1:=qb _ hBV0 k1
      have k2:=qb _ hBV0 k2
      have k3:=qb _ hBV0 k3
      have k4:=qb _ hBV0 k4
      have k5:=qb _ hBV0 k5
      have e0:=qb _ hBV0 e0
      have e1:=qb _ hBV0 e1
      have e2:=qb _ hBV0 e2
      have e3:=qb _ hBV0 e3
      have HIV:=Lib.hid (HI.out.keep hBV0)
      have hBwV:=bcl hBw hBV0
      have hBrV:Below (w.heap.size+1+1) W V:=hBr.trans (hBV0.mono (by omega))
      obtain ⟨ta,tc,rfl,htc,hta⟩:=PI.rows HIV.out
      have hFO:FreeOK D s.p took tc:=⟨by rw [HC.out.1];omega,by rw [HC.out.1];omega,htc,fun x hx=>(HTK.out x hx).1,HOK.out.hs,HPS.out⟩
      have HFU:=Lib.hid fun (x:WayM) (hx:x∈ws) X (hX:Below V.heap.size V X)=>full_any D (some M) s.p took ta tc x c.co w.heap.size (w.heap.size+1) (w.heap.size+1+1) wr.heap.size X (HD.out.keep (bcl hBwV hX)) HS.out hFO (hta.keep hX) (fun y hy=>((HTK.out y hy).2.keep hBwV).keep hX) (HWX.out x hx).1.1.1 (((HWX.out x hx).1.2.keep hBwV).keep hX) (HWX.out x hx).2 (HB6.out X _ ⟨qb _ hX k0,qb _ hX k1,qb _ hX k2,qb _ hX k3,qb _ hX k4,qb _ hX k5⟩) (qb _ hX e0) (qb _ hX e1) (qb _ hX e2) (qb _ hX e3) (qb _ hX HIV.out.c) (qb _ hX d2V)
      clear hFO hta htc k0 k1 k2 k3 k4 k5 e0 e1 e2 e3 e4 H6 HWO HWO2 HB6 hbit hbit2 hng
      have HDV:=Lib.hid d2V
      obtain ⟨U,hU⟩:∃U,U=wr:=⟨_,rfl⟩
      subst hU
      go_loopw [62,7] (fun i q wr=>∃j:Nat,i=.int .i64 j∧ov=q∧j≤ws.length∧Below V.heap.size V wr∧Hid (je D s took c (ws.length - j) j=je D s took c ws.length 0)) (fun i _ _=>ws.length - (intOf i).toNat)
      case atStart=>exact ⟨0,rfl,rfl,by omega,Below.refl _ _,Lib.hid rfl⟩
      case round =>
       obtain ⟨j,rfl,rfl,hj,hBj,HJ⟩:=hrel
       have hzj:=hBj.size
       have hBwj:=bcl hBwV hBj
       by_cases hlj:j < ws.length
       ·obtain ⟨x,hx⟩:∃x,ws[j]? = some x:=⟨ws[j],by simp [hlj]⟩
        obtain ⟨bb,bo,rfl,hP⟩:=HWR.out wr hBwj (by omega)
        have hjc:(j:Int)≤(wc:Int):=by omega
        have g0:=hP j x hx 0 _ rfl
        simp only [Nat.mul_one,Nat.add_zero] at g0
        have hfu:=HFU.out x (List.mem_of_getElem? hx) wr hBj
        have hpk:je D s took c (ws.length - j) j=if JY D s.p took c.co x=true then je D s took c (ws.length - (j+1)) (j+1) else (j,x):=by
         rw [show ws.length - j=(ws.length - (j+1))+1 by omega,je,HWK.out j,List.getD_eq_getElem?_getD,hx]
         rfl
        have HXM:=Lib.hid (HWX.out x (List.mem_of_getElem? hx)).1
        clear hP hx
        generalize JY D s.p took c.co x=B at *
        cases B with
        | true =>
          have HP2:=Lib.hid (hpk.symm.trans HJ.out)
          clear hpk
          go_wp2_with (go_at_call 89;(with_reducible refine hfu.mono ?_);rintro e w2 ⟨rfl,hB4⟩)
          go_roundw
          case rel=>exact ⟨j+1,rfl,rfl,by omega,bcl hBj hB4,Lib.hid (by simpa using HP2.out)⟩
          case measure=>simp [intOf];omega
        | false =>
          have hpk2:je D s took c ws.length 0=((j:Int),x):=HJ.out.symm.trans (by simpa using hpk)
          have HS3:Hid (outs ++ [(j:Int)] ++ zW D s (k+1) (took ++ [x]) (cs.drop (k+1))=R):=Lib.hid (by have e:=HS2.out;rw [hpk2] at e;exact e)
          have HT2:Hid (∀y∈took ++ [x],(y.l.length≤20∧y.l.length≤y.c)∧qh w 1 encI y.a y.l):=Lib.hid (by
           intro y hy
           rw [List.mem_append,List.mem_singleton] at hy
           rcases hy with hy | rfl
           ·exact HTK.out y hy
           ·exact HXM.out)
          clear hpk hpk2
          obtain ⟨i0,hi,hz0,hz1,hz2⟩:=info_parts Xq
          obtain ⟨j0,hj0,jz0,jz1,jz2⟩:=info_parts Ye
          go_upto_region 21 with (go_at_call 89;(with_reducible refine hfu.mono ?_);rintro e w2 ⟨rfl,hB4⟩;have hB8:=bcl hBj hB4;have hB9:=hBrV.trans (hB8.mono (by omega));have HI2:=Lib.hid (HIV.out.keep hB8);have tq2:=HI2.out.c;have hzt2:=lt_of_cell tq2;simp only at hzt2;have hzt3:w.heap.size+1+1 < w2.heap.size+1:=(by omega);have hzt4:w.heap.size+1+1 < w2.heap.size+1+1:=(by omega))
          go_cut [7] from 82 to 89 (fun q wx=>∃tv',PI (w.heap.size+1+1) wx q (outs ++ [(j:Int)]) tv' (took ++ [x])∧Below (w.heap.size+1+1) W wx)
          case first =>
           have hj:=hj0
           go_wp2_with fail
           refine wp_region_any (by kernel_rfl) ?_;try (change wpAny _ _ _ _ _ _ _ (World.drew _))
           (refine wpAny_take (i:=0) (v:=?_) rfl (by kernel_rfl) (by kernel_rfl) (by kernel_rfl) (fun _ _ _ h=>h) (Or.inl ⟨by rfl,?_⟩) ?_;rotate_left 1;focus (intro w;go_simp;first | done | with_reducible rfl);try simp only [zs,Act.put])
           (refine wpAny_take (i:=1) (v:=?_) rfl (by kernel_rfl) (by kernel_rfl) (by kernel_rfl) (fun _ _ _ h=>h) (Or.inl ⟨by rfl,?_⟩) ?_;rotate_left 1;focus (intro w;go_simp;first | done | with_reducible rfl);try simp only [zs,Act.put])
           (refine wpAny_take (i:=5) (v:=?_) rfl (by kernel_rfl) (by kernel_rfl) (by kernel_rfl) (fun _ _ _ h=>h) (Or.inl ⟨by rfl,?_⟩) ?_;rotate_left 1;focus (intro w;go_simp;first | done | with_reducible rfl);try simp only [zs,Act.put])
           all_goals first | refine wpAny_ready (rs:=[2,4,6]) (by decide +kernel) (by simp) ?_
           all_goals repeat' first | exact AllReady.nil | refine AllReady.cons rfl (fun K hK=>?_) ?_
           all_goals (go_simp;refine hK _ _ ?_)
           all_goals (clear hK K;try simp only [zs,Act.put])
           iterate 3
            all_goals first | refine wpAny_ready (rs:=[3,4,6]) (by decide +kernel) (by simp) ?_ | refine wpAny_ready (rs:=[2,6]) (by decide +kernel) (by simp) ?_ | refine wpAny_ready (rs:=[2,4]) (by decide +kernel) (by simp) ?_ | refine wpAny_ready (rs:=[4,6]) (by decide +kernel) (by simp) ?_ | refine wpAny_ready (rs:=[3,6]) (by decide +kernel) (by simp) ?_ | refine wpAny_ready (rs:=[3,4]) (by decide +kernel) (by simp) ?_ | refine wpAny_ready (rs:=[2]) (by decide +kernel) (by simp) ?_ | refine wpAny_ready (rs:=[6]) (by decide +kernel) (by simp) ?_ | refine wpAny_ready (rs:=[4]) (by decide +kernel) (by simp) ?_ | refine wpAny_ready (rs:=[3]) (by decide +kernel) (by simp) ?_
            all_goals repeat' first | exact AllReady.nil | refine AllReady.cons rfl (fun K hK=>?_) ?_
            all_goals first | (refine step_append_lies _ (by rfl) (.tmp 82) (.tmp 84) 31 (by rfl) (w.heap.size+1+1+1) 3 i0 (.int .i64 0) 1 8 ((qy _).trans Tryz.underlying31) hi hz0 hz1 hz2 rfl (by omega) _ _ _ (by rfl) ((HI2.out.keep (by go_grown)).o1) _ 1 1 [.int .i64 (j:Int)] (by rfl) (by rfl) (jv (by go_cell)) (by simp [Value.oneCell']) (by omega) (by unfold maxLen;omega) (by omega) (by simp;omega) _ rfl ?_;intro g1 c1 Y1 n1 q1 a1 b1;obtain ⟨y1,y2⟩:=PI.hold HI2.out (by go_grown) q1;have hzy:=lt_of_cell y1;simp only at hzy;refine hK _ _ ?_) | (go_simp;refine hK _ _ ?_)
            all_goals (clear hK K;try simp only [zs,Act.put])
           all_goals first | refine wpAny_ready (rs:=[7]) (by decide +kernel) (by simp) ?_
           all_goals repeat' first | exact AllReady.nil | refine AllReady.cons rfl (fun K hK=>?_) ?_
           all_goals
            refine step_append_lies _ (by rfl) (.tmp 86) (.tmp 88) 49 (by rfl) (w.heap.size+1+1+1) 31 j0 (.slice none 0 0) 1 24 ((qy _).trans Tryz.underlying49) hj jz0 jz1 jz2 rfl (by omega) _ _ _ (by first | rfl | (rw [ht];rfl)) (PI.own2 HI2.out (by go_grown) q1 (by first | exact Below.refl _ _ | go_grown)) _ 1 1 [.slice x.a x.l.length x.c] (by rfl) (by rfl) (jv (by first | assumption | go_cell | exact q1.cell (by go_cell) (fun e=>by have h9:=(HI2.out.o1.lt _ e.symm).2;simp only at h9;omega))) (by simp [Value.oneCell']) (by omega) (by unfold maxLen;omega) (by omega) (by first | omega | (simp;omega)) _ rfl ?_
            intro g2 c2 Y2 n2 q2 a2 b2
            refine hK _ _ ?_
            obtain ⟨p2,hB2⟩:=PI.step (x:=x) HI2.out (by go_grown) q1 n1 a1 (by first | exact Below.refl _ _ | go_grown) q2 n2 a2
            obtain ⟨u1,u2⟩:=PI.hold2 HI2.out (by go_grown) q1 (by first | exact Below.refl _ _ | go_grown) q2
            clear hK K
            try simp only [zs,Act.put]
            (refine wpAny_ready (rs:=[8]) (by kernel_rfl) (by simp) ?_;refine AllReady.cons rfl (fun K hK=>?_) AllReady.nil;go_simp;refine hK _ _ ?_;clear hK K)
            (refine wpAny_ready (rs:=[9]) (by kernel_rfl) (by simp) ?_;refine AllReady.cons rfl (fun K hK=>?_) AllReady.nil;go_simp;refine hK _ _ ?_;clear hK K)
            refine wpAny_done (by kernel_rfl) ?_ _;try simp only [zs,Act.put]
            simp only [ho,ht] at p2 hB2
            go_wp2_with fail
            go_meet
            exact ⟨_,p2,hB9.trans hB2⟩
          case rest =>
           obtain ⟨tv',hp,hb⟩:=hcut
           go_wp2_with fail
           go_roundw
           case rel=>exact ⟨k+1,outs ++ [(j:Int)],took ++ [x],tv',_,rfl,rfl,by omega,hb,hp,by simp [ho],by simp [ht],HT2.out,HS3⟩
           case measure=>simp [intOf];omega
       ·obtain rfl:j=ws.length:=by omega
        have hpk2:je D s took c ws.length 0=(-1,Yz):=HJ.out.symm.trans (by rw [Nat.sub_self];rfl)
        have HS3:Hid (outs ++ [-1] ++ zW D s (k+1) (took ++ [Yz]) (cs.drop (k+1))=R):=Lib.hid (by have e:=HS2.out;rw [hpk2] at e;exact e)
        have HT2:Hid (∀x∈took ++ [Yz],(x.l.length≤20∧x.l.length≤x.c)∧qh w 1 encI x.a x.l):=Lib.hid (by
         intro x hx
         rw [List.mem_append,List.mem_singleton] at hx
         rcases hx with hx | rfl
         ·exact HTK.out x hx
         ·exact ⟨⟨by decide,by decide⟩,fun h=>absurd h (by decide)⟩)
        have hB9:=hBrV.trans (hBj.mono (by omega))
        have HI2:=Lib.hid (HIV.out.keep hBj)
        have tq2:=HI2.out.c
        have hzt2:=lt_of_cell tq2
        simp only at hzt2
        have hzt3:w.heap.size+1+1 < wr.heap.size+1:=by omega
        have hzt4:w.heap.size+1+1 < wr.heap.size+1+1:=by omega
        obtain ⟨i0,hi,hz0,hz1,hz2⟩:=info_parts Xq
        obtain ⟨j0,hj0,jz0,jz1,jz2⟩:=info_parts Ye
        clear hpk2
        have hj:=hj0
        go_wp2_with fail
        refine wp_region_any (by kernel_rfl) ?_;try (change wpAny _ _ _ _ _ _ _ (World.drew _))
        (refine wpAny_take (i:=0) (v:=?_) rfl (by kernel_rfl) (by kernel_rfl) (by kernel_rfl) (fun _ _ _ h=>h) (Or.inl ⟨by rfl,?_⟩) ?_;rotate_left 1;focus (intro w;go_simp;first | done | with_reducible rfl);try simp only [zs,Act.put])
        all_goals first | refine wpAny_ready (rs:=[1,3,4]) (by decide +kernel) (by simp) ?_
        all_goals repeat' first | exact AllReady.nil | refine AllReady.cons rfl (fun K hK=>?_) ?_
        all_goals (go_simp;refine hK _ _ ?_)
        all_goals (clear hK K;try simp only [zs,Act.put])
        iterate 3
         all_goals first | refine wpAny_ready (rs:=[2,3,4]) (by decide +kernel) (by simp) ?_ | refine wpAny_ready (rs:=[1,4]) (by decide +kernel) (by simp) ?_ | refine wpAny_ready (rs:=[1,3]) (by decide +kernel) (by simp) ?_ | refine wpAny_ready (rs:=[3,4]) (by decide +kernel) (by simp) ?_ | refine wpAny_ready (rs:=[2,4]) (by decide +kernel) (by simp) ?_ | refine wpAny_ready (rs:=[2,3]) (by decide +kernel) (by simp) ?_ | refine wpAny_ready (rs:=[1]) (by decide +kernel) (by simp) ?_ | refine wpAny_ready (rs:=[4]) (by decide +kernel) (by simp) ?_ | refine wpAny_ready (rs:=[3]) (by decide +kernel) (by simp) ?_ | refine wpAny_ready (rs:=[2]) (by decide +kernel) (by simp) ?_
         all_goals repeat' first | exact AllReady.nil | refine AllReady.cons rfl (fun K hK=>?_) ?_
         all_goals first | (refine step_append_lies _ (by rfl) (.tmp 91) (.tmp 92) 31 (by rfl) (w.heap.size+1+1+1) 3 i0 (.int .i64 0) 1 8 ((qy _).trans Tryz.underlying31) hi hz0 hz1 hz2 rfl (by omega) _ _ _ (by rfl) ((HI2.out.keep (by go_grown)).o1) _ 1 1 [.int .i64 (-1)] (by rfl) (by rfl) (jv (by go_cell)) (by simp [Value.oneCell']) (by omega) (by unfold maxLen;omega) (by omega) (by simp;omega) _ rfl ?_;intro g1 c1 Y1 n1 q1 a1 b1;obtain ⟨y1,y2⟩:=PI.hold HI2.out (by go_grown) q1;have hzy:=lt_of_cell y1;simp only at hzy;refine hK _ _ ?_) | (go_simp;refine hK _ _ ?_)
         all_goals (clear hK K;try simp only [zs,Act.put])
        all_goals first | refine wpAny_ready (rs:=[5]) (by decide +kernel) (by simp) ?_
        all_goals repeat' first | exact AllReady.nil | refine AllReady.cons rfl (fun K hK=>?_) ?_
        all_goals
         refine step_append_lies _ (by rfl) (.tmp 94) (.tmp 95) 49 (by rfl) (w.heap.size+1+1+1) 31 j0 (.slice none 0 0) 1 24 ((qy _).trans Tryz.underlying49) hj jz0 jz1 jz2 rfl (by omega) _ _ _ (by first | rfl | (rw [ht];rfl)) (PI.own2 HI2.out (by go_grown) q1 (by first | exact Below.refl _ _ | go_grown)) _ 1 1 [.slice none 0 0] (by rfl) (by rfl) (jv (by first | assumption | go_cell | exact q1.cell (by go_cell) (fun e=>by have h9:=(HI2.out.o1.lt _ e.symm).2;simp only at h9;omega))) (by simp [Value.oneCell']) (by omega) (by unfold maxLen;omega) (by omega) (by first | omega | (simp;omega)) _ rfl ?_
         intro g2 c2 Y2 n2 q2 a2 b2
         refine hK _ _ ?_
         obtain ⟨p2,hB2⟩:=PI.step (x:=Yz) HI2.out (by go_grown) q1 n1 a1 (by first | exact Below.refl _ _ | go_grown) q2 n2 a2
         obtain ⟨u1,u2⟩:=PI.hold2 HI2.out (by go_grown) q1 (by first | exact Below.refl _ _ | go_grown) q2
         clear hK K
         try simp only [zs,Act.put]
         (refine wpAny_ready (rs:=[6]) (by kernel_rfl) (by simp) ?_;refine AllReady.cons rfl (fun K hK=>?_) AllReady.nil;go_simp;refine hK _ _ ?_;clear hK K)
         (refine wpAny_ready (rs:=[7]) (by kernel_rfl) (by simp) ?_;refine AllReady.cons rfl (fun K hK=>?_) AllReady.nil;go_simp;refine hK _ _ ?_;clear hK K)
         refine wpAny_done (by kernel_rfl) ?_ _;try simp only [zs,Act.put]
         simp only [ho,ht] at p2 hB2
         go_wp2_with fail
         go_roundw
         case rel=>exact ⟨k+1,outs ++ [-1],took ++ [Yz],_,_,rfl,rfl,by omega,hB9.trans hB2,p2,by simp [ho],by simp [ht],HT2.out,HS3⟩
         case measure=>simp [intOf];omega
    ·obtain rfl:k=cs.length:=by omega
     have hE:=HE.out
     rw [List.drop_eq_nil_of_le (Nat.le_refl _),zW,List.append_nil] at hE
     obtain ⟨oa,oc,rfl,hlc,hrow⟩:=PI.outrow HI.out
     have hat:=PI.outat HI.out
     rw [hE] at hrow hlc
     have e6:=(hBr.cell (p:=⟨w.heap.size+1,6,none⟩) (by simp <;> omega)).trans e6
     have e7:=(hBr.cell (p:=⟨w.heap.size+1,7,none⟩) (by simp <;> omega)).trans e7
     have e8:=(hBr.cell (p:=⟨w.heap.size+1,8,none⟩) (by simp <;> omega)).trans e8
     obtain ⟨W2,q1,q2,q3,q4⟩:=xH qed (HF.out.1.keep hBw) s (.slice oa outs.length oc)
     have hKN:KN D M A W2:=⟨_,q2,fun s' v hv=>by
      by_cases hs:s'=s
      ·subst hs
       simp only [if_true,Option.some.injEq] at hv
       subst hv
       exact ⟨oa,oc,by rw [HPN.out,hE],by rw [HPN.out];exact hlc,by rw [HPN.out];exact jC (HF.out.1.keep hBw) hrow q3,fun p hp=>⟨by have:=(hat p hp).2;omega,fun h9=>by have h8:=(hat p hp).1;have h9:=HAV.out _ h9;omega⟩⟩
      ·rw [if_neg hs] at hv
       obtain ⟨a2,c2,e2,l2,r2,z2⟩:=HF.out.2 s' v hv
       exact ⟨a2,c2,e2,l2,jC (HF.out.1.keep hBw) (r2.keep hBw) q3,fun p hp=>⟨by have:=(z2 p hp).1;have:=hBw.size;omega,(z2 p hp).2⟩⟩⟩
     have hfin:Hid (((∃a c,Ending.returned (.slice oa cs.length oc)=.returned (.slice a R.length c)∧R.length≤c∧qh W2 1 encI a R)∧KN D M A W2∧w.grownBy W2 (some M))):=Lib.hid ⟨⟨oa,oc,by rw [← ho,hE],hlc,jC (HF.out.1.keep hBw) hrow q3⟩,hKN,ql (qi hBw) q3⟩
     simp only [qL] at q1
     rw [ho] at q1
     clear hKN q2 q3 q4 hrow hlc hE hat
     go_wp2
     rw [Exit.noGoto_ret]
     go_ret
     have e:=hfin.out
     rw [← ho] at e
     exact e
end Go.Proofs.Tryz
