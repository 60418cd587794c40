/-
  Lemmas about the program and the machine (B36 to B36), upon which the last text of this claim rests; no condition.
-/
import Derived.Deep.AppendLies
import Derived.Deep.RegionLaw
import Derived.Deep.CutBlock
import Derived.Test.YtnpjncjnmpfgpaaGreatDoorY06
set_option linter.unusedSimpArgs false
set_option linter.unusedVariables false
namespace Go.Proofs.Tryz
open Go Go.Load Go.RowKit
theorem YD (w:World) (p:Addr) (u:Value):w.grownBy (w.setCell p u) (some p.block) :=
 ⟨rfl,rfl,rfl,by simp [World.setCell],fun k _ hne=>Below.heap_setCell _ _ _ _ (by rintro rfl;exact hne rfl)⟩
structure GI (W wr:World) (f:Int×Int→Int×Int) (x:Grp) (v:Value) (j:Nat):Prop where
 bw:Below W.heap.size W wr
 c0:wr.cell? ⟨W.heap.size,0,none⟩=some (.string x.name)
 c1:wr.cell? ⟨W.heap.size,1,none⟩=some (.int .i64 x.trunks)
 c2:wr.cell? ⟨W.heap.size,2,none⟩=some v
 f2:wr.frozen? ⟨W.heap.size,2,none⟩=false
 own:wr.ownsRow (W.heap.size+1) 23 2 v j (qB ((x.traffic.take j).map f))
theorem GI.start (W:World) (f:Int×Int→Int×Int) (x:Grp) (ty:TypeId):GI W (W.alloc (.cells #[.string x.name,.int .i64 x.trunks,.slice none 0 0] ty)) f x (.slice none 0 0) 0 :=
 ⟨(Below.refl _ W).alloc (Nat.le_refl _) _,by go_cell,by go_cell,by go_cell,by go_cell,by rw [List.take_zero];exact World.ownsRow_nil _ _ _ _⟩
theorem GI.keep {W wr w1:World} {f:Int×Int→Int×Int} {x:Grp} {v:Value} {j:Nat} (h:GI W wr f x v j) (hB:Below wr.heap.size wr w1):GI W w1 f x v j :=
 ⟨bcl h.bw hB,qb _ hB h.c0,qb _ hB h.c1,qb _ hB h.c2,qg _ hB h.c2 h.f2,yw h.own hB⟩
theorem GI.hold {W wr w2:World} {f:Int×Int→Int×Int} {x:Grp} {v:Value} {j:Nat} (h:GI W wr f x v j) (hgrow:wr.grownBy w2 v.ownBlock):w2.cell? ⟨W.heap.size,2,none⟩=some v∧w2.frozen? ⟨W.heap.size,2,none⟩=false:=by
 have hne:some W.heap.size≠v.ownBlock:=fun e=>by have:=(h.own.lt _ e.symm).1;omega
 exact ⟨hgrow.cell h.c2 hne,by rw [hgrow.frozen_far ⟨W.heap.size,2,none⟩ (lt_of_cell h.c2) hne];exact h.f2⟩
theorem GI.step {W wr w2:World} {f:Int×Int→Int×Int} {x:Grp} {v u:Value} {j:Nat} {y:Int×Int} (h:GI W wr f x v j) (hy:x.traffic[j]? = some y) (hgrow:wr.grownBy w2 v.ownBlock)
 (hown:w2.ownsRow (W.heap.size+1) 23 2 u (j+1) (qB ((x.traffic.take j).map f) ++ [.int .i64 (f y).1,.int .i64 (f y).2])):GI W (w2.setCell ⟨W.heap.size,2,none⟩ u) f x u (j+1):=by
 have hl:=h.own.lt
 have hu:=hown.lt
 have hne:some W.heap.size≠v.ownBlock:=fun e=>by have:=(hl _ e.symm).1;omega
 have b:=h.hold hgrow
 have hlt:W.heap.size < wr.heap.size:=lt_of_cell h.c2
 refine ⟨((h.bw.grown hgrow (by omega) (fun j hj=>by have:=(hl j hj).1;omega)).setCell (Nat.le_refl _) _),qc (by simp) (hgrow.cell h.c0 hne),qc (by simp) (hgrow.cell h.c1 hne),qQ (qx b.1),by simpa using b.2,?_⟩
 have e:qB ((x.traffic.take (j+1)).map f)=qB ((x.traffic.take j).map f) ++ [.int .i64 (f y).1,.int .i64 (f y).2]:=by
  obtain ⟨hk,hg'⟩:=List.getElem?_eq_some_iff.1 hy
  rw [List.take_succ_eq_append_getElem hk,hg',List.map_append]
  unfold qB
  rw [List.flatMap_append]
  rfl
 rw [e]
 exact hown.kept (YD _ _ _) (by
  cases hb:u.ownBlock with
  | none=>exact .inl rfl
  | some i=>right;intro e;have:=(hu i hb).1;have e2:i=W.heap.size:=Option.some.inj e;omega)
structure GO (w wr:World) (lim:Int×Int) (r hr:Int) (ga:Option Addr) (gc n:Nat) (gs:List Grp) (v:Value) (k:Nat) (l:List Grp):Prop where
 bw:Below w.heap.size w wr
 arg:Five wr w.heap.size (.int .i64 lim.1) (.int .i64 lim.2) (.int .i64 r) (.int .i64 hr) (.slice ga gs.length gc)
 res:Five wr (w.heap.size+1) (.int .i64 0) (.int .i64 0) (.int .i64 0) (.int .i64 0) (.slice none 0 0)
 o:Five wr (w.heap.size+1+1) (.int .i64 lim.1) (.int .i64 lim.2) (.int .i64 r) (.int .i64 hr) v
 own:wr.ownsRow (w.heap.size+1+1+1) 56 3 v k (qI l)
 same:qM ((gs.take k).map (yrG r n)) l
 ta:∀x∈l,∃t,x.ta=some ⟨t,0,none⟩∧w.heap.size+1+1+1≤t∧t < wr.heap.size∧v.ownBlock≠some t∧qE wr t 0 x.traffic
theorem GO.start (w:World) (lim:Int×Int) (r hr:Int) (ga:Option Addr) (gc n:Nat) (gs:List Grp) (ty:TypeId):GO w (((w.alloc (.cells #[.int .i64 lim.1,.int .i64 lim.2,.int .i64 r,.int .i64 hr,.slice ga gs.length gc] ty)).alloc (.cells #[.int .i64 0,.int .i64 0,.int .i64 0,.int .i64 0,.slice none 0 0] ty)).alloc (.cells #[.int .i64 lim.1,.int .i64 lim.2,.int .i64 r,.int .i64 hr,.slice none 0 0] ty)) lim r hr ga gc n gs (.slice none 0 0) 0 [] :=
 ⟨by go_grown,((Five.new w _ _ _ _ _ ty).keep ((Below.refl _ _).alloc (Nat.le_refl _) _)).keep ((Below.refl _ _).alloc (Nat.le_refl _) _),(Five.new' _ _ _ _ _ _ ty (by simp)).keep ((Below.refl _ _).alloc (Nat.le_refl _) _),Five.new' _ _ _ _ _ _ ty (by simp),World.ownsRow_nil _ _ _ _,.refl _,fun x hx=>by cases hx⟩
theorem Jd (l:List Grp) (g:Grp):qI (l ++ [g])=qI l ++ [.string g.name,.int .i64 g.trunks,.slice g.ta g.traffic.length g.tc]:=by simp [qI]
theorem qM.snoc {a b:List Grp} {x y:Grp} (h:qM a b) (hxy:SameG x y):qM (a ++ [x]) (b ++ [y]):=by
 have hl:=h.1
 refine ⟨by simp [hl],fun i g g' hg hg'=>?_⟩
 by_cases hi:i < a.length
 ·rw [List.getElem?_append_left hi] at hg
  rw [List.getElem?_append_left (by omega)] at hg'
  exact h.2 i g g' hg hg'
 ·rw [List.getElem?_append_right (by omega)] at hg
  rw [List.getElem?_append_right (by omega),hl] at hg'
  rcases hd:i - a.length with _ | m
  ·rw [hd] at hg hg'
   obtain rfl:x=g:=by simpa using hg
   obtain rfl:y=g':=by simpa using hg'
   exact hxy
  ·rw [hd] at hg;simp at hg
theorem GO.step {w wr w1 w2:World} {lim:Int×Int} {r hr:Int} {ga:Option Addr} {gc n k t tc g cap:Nat} {gs l:List Grp} {v:Value} {x:Grp} (h:GO w wr lim r hr ga gc n gs v k l) (hx:gs[k]? = some x) (hB:Below wr.heap.size wr w1) (ht1:wr.heap.size≤t) (ht2:t < w1.heap.size) (hp:qE w1 t 0 (x.traffic.map (jR r n)))
 (hgrow:w1.grownBy w2 v.ownBlock) (hat:v.ownBlock=some g∨g=w1.heap.size) (hown:w2.ownsRow (w.heap.size+1+1+1) 56 3 (.slice (some ⟨g,0,none⟩) (k+1) cap) (k+1) (qI l ++ [.string x.name,.int .i64 x.trunks,.slice (some ⟨t,0,none⟩) x.traffic.length tc])) :
 GO w (w2.setCell ⟨w.heap.size+1+1,4,none⟩ (.slice (some ⟨g,0,none⟩) (k+1) cap)) lim r hr ga gc n gs (.slice (some ⟨g,0,none⟩) (k+1) cap) (k+1) (l ++ [{ yrG r n x with ta:=some ⟨t,0,none⟩,tc:=tc }]):=by
 have hl:=h.own.lt
 have hu:=hown.lt g rfl
 have ne:∀z,z < w.heap.size+1+1+1→some z≠v.ownBlock:=fun z hz e=>by have:=(hl _ e.symm).1;omega
 have hO:=h.o.keep hB
 have hR:=h.res.keep hB
 have hA:=h.arg.keep hB
 have l2:w.heap.size+1+1 < w1.heap.size:=lt_of_cell hO.c.1
 have five:∀{z:Nat} {v0 v1 v2 v3 v4:Value},z < w.heap.size+1+1+1→Five w1 z v0 v1 v2 v3 v4→Five w2 z v0 v1 v2 v3 v4:=fun {z v0 v1 v2 v3 v4} hz hF=>by
  obtain ⟨⟨a0,a1,a2,a3,a4⟩,⟨f0,f1,f2,f3,f4⟩⟩:=hF
  have fz:∀(i:Nat),w1.frozen? ⟨z,i,none⟩=false→w2.frozen? ⟨z,i,none⟩=false:=fun i hf=>by rw [hgrow.frozen_far ⟨z,i,none⟩ (by show z < _;omega) (ne z hz)];exact hf
  exact ⟨⟨hgrow.cell a0 (ne z hz),hgrow.cell a1 (ne z hz),hgrow.cell a2 (ne z hz),hgrow.cell a3 (ne z hz),hgrow.cell a4 (ne z hz)⟩,⟨fz 0 f0,fz 1 f1,fz 2 f2,fz 3 f3,fz 4 f4⟩⟩
 have far:∀{z:Nat} {u v0 v1 v2 v3 v4:Value},z≠w.heap.size+1+1→Five w2 z v0 v1 v2 v3 v4→Five (w2.setCell ⟨w.heap.size+1+1,4,none⟩ u) z v0 v1 v2 v3 v4:=fun {z u v0 v1 v2 v3 v4} hz hF=>by
  obtain ⟨⟨a0,a1,a2,a3,a4⟩,⟨f0,f1,f2,f3,f4⟩⟩:=hF
  have nn:∀q,(⟨w.heap.size+1+1,4,none⟩:Addr)≠⟨z,q,none⟩:=fun q e=>hz (congrArg Addr.block e).symm
  exact ⟨⟨qc (nn _) a0,qc (nn _) a1,qc (nn _) a2,qc (nn _) a3,qc (nn _) a4⟩,by simpa using f0,by simpa using f1,by simpa using f2,by simpa using f3,by simpa using f4⟩
 obtain ⟨⟨a0,a1,a2,a3,a4⟩,⟨f0,f1,f2,f3,f4⟩⟩:=five (by omega) hO
 refine ⟨?_,far (by omega) (five (by omega) hA),far (by omega) (five (by omega) hR),⟨⟨qc (by simp) a0,qc (by simp) a1,qc (by simp) a2,qc (by simp) a3,qQ (qx a4)⟩,by simpa using f0,by simpa using f1,by simpa using f2,by simpa using f3,by simpa using f4⟩,?_,?_,?_⟩
 ·exact ((bcl h.bw hB).grown hgrow (by omega) (fun j hj=>by have:=(hl j hj).1;omega)).setCell (by show _≤w.heap.size+1+1;omega) _
 ·rw [Jd]
  have e:(yrG r n x).traffic.length=x.traffic.length:=by simp [yrG]
  simp only [e]
  exact hown.kept (YD _ _ _) (.inr (by intro e;have:g=w.heap.size+1+1:=Option.some.inj e;omega))
 ·obtain ⟨hk,hg'⟩:=List.getElem?_eq_some_iff.1 hx
  rw [List.take_succ_eq_append_getElem hk,hg',List.map_append]
  exact h.same.snoc ⟨rfl,rfl,rfl⟩
 ·have pk:∀{z:Nat} {q:List (Int×Int)},w.heap.size+1+1+1≤z→v.ownBlock≠some z→qE w1 z 0 q→qE (w2.setCell ⟨w.heap.size+1+1,4,none⟩ (.slice (some ⟨g,0,none⟩) (k+1) cap)) z 0 q:=fun {z q} hz hn hq i y hy=>by
   have nn:∀q,(⟨w.heap.size+1+1,4,none⟩:Addr)≠⟨z,q,none⟩:=fun q e=>by have:=congrArg Addr.block e;simp only at this;omega
   exact ⟨qc (nn _) (hgrow.cell (hq i y hy).1 (fun e=>hn e.symm)),qc (nn _) (hgrow.cell (hq i y hy).2 (fun e=>hn e.symm))⟩
  have hsz:=hgrow.size
  have hb0:=h.bw.size
  have hw3:w.heap.size+1+1 < wr.heap.size:=lt_of_cell h.o.c.1
  intro y hy
  rcases List.mem_append.1 hy with hy | hy
  ·obtain ⟨z,e,z1,z2,z3,z4⟩:=h.ta y hy
   have zB:=hB.size
   refine ⟨z,e,z1,by simp;omega,?_,pk z1 z3 (z4.keep hB)⟩
   intro e
   have e:g=z:=Option.some.inj e
   rcases hat with q | q
   ·exact z3 (e▸q)
   ·omega
  ·obtain rfl:=List.mem_singleton.1 hy
   refine ⟨t,rfl,by omega,by simp;omega,?_,pk (by omega) ?_ hp⟩
   ·intro e
    have e:g=t:=Option.some.inj e
    rcases hat with q | q
    ·have:=(hl _ q).2;omega
    ·omega
   ·intro e
    have:=(hl _ e).2;omega
theorem QE {W:World} {z b j:Nat} {v v0 v1 v2 v3 v4:Value} (h:W.cell? ⟨b,j,none⟩=some v) (hne:z≠b):(set5 W z v0 v1 v2 v3 v4).cell? ⟨b,j,none⟩=some v:=(qO (fun e=>hne e.symm)).trans h
structure BookOn (base:Nat) (W:World) (A:Bk):Prop where
 book:BookAt W A
 row:1≤A.gs.length→∀b o,A.ga=some ⟨b,o,none⟩→base≤b
 traf:∀g∈A.gs,1≤g.traffic.length→∀b o,g.ta=some ⟨b,o,none⟩→base≤b
theorem BookOn.keep {base:Nat} {W W1:World} {A:Bk} (h:BookOn base W A) (hB:Below W.heap.size W W1):BookOn base W1 A:=⟨h.book.keep hB,h.row,h.traf⟩
theorem BookOn.set5 {base z:Nat} {W:World} {A:Bk} {v0 v1 v2 v3 v4:Value} (h:BookOn base W A) (hz:z < base):BookAt (Load.set5 W z v0 v1 v2 v3 v4) A :=
 ⟨fun hl=>let ⟨b,o,e,hc⟩:=h.book.row hl;⟨b,o,e,fun i g hg=>have hb:=h.row hl b o e;⟨QE (hc i g hg).1 (by omega),QE (hc i g hg).2.1 (by omega),QE (hc i g hg).2.2 (by omega)⟩⟩,
  fun g hg hl=>let ⟨b,o,e,hp⟩:=h.book.traf g hg hl;⟨b,o,e,fun i x hx=>have hb:=h.traf g hg hl b o e;⟨QE (hp i x hx).1 (by omega),QE (hp i x hx).2 (by omega)⟩⟩,h.book.small,h.book.cap⟩
set_option maxHeartbeats 8000000 in
set_option maxRecDepth 100000 in
theorem Ym (B:Bk) (n:Nat) (w:World) (h:BookAt w B) (hc:checkN B=0) (hn:n≤6) :
 Calls qf 68 #[bv B,.int .i64 n] w fun e w'=>(∃l g gc,e=.returned (bv { B with gs:=l,ga:=some ⟨g,0,none⟩,gc:=gc })∧qM (qo B n).gs l∧BookOn w.heap.size w' { B with gs:=l,ga:=some ⟨g,0,none⟩,gc:=gc })∧Below w.heap.size w w':=by
 obtain ⟨i0,hi,iz0,iz1,iz2⟩:=info_parts qci
 have hi:=(yI 56).trans hi
 obtain ⟨j0,hj,jz0,jz1,jz2⟩:=info_parts qad
 have hj:=(yI 23).trans hj
 have hV:=qN hc
 have hl1:=hV.len1
 have hl4:=hV.len4
 have hr1:=hV.num.2
 have hfl:∀g∈B.gs,1≤g.traffic.length:=fun g hg=>by have:=(hV.grp g hg).len;omega
 have hgs:=YE B n
 obtain ⟨b,o,hga,hcs⟩:=h.row hl1
 have HV:=Lib.hid hV
 have HB:=Lib.hid h
 have HC:=Lib.hid hcs
 have HF:=Lib.hid hfl
 have HS:=Lib.hid hgs
 have HI:=Lib.hid (And.intro hi (And.intro iz0 (And.intro iz1 iz2)))
 clear h hc hV hcs hfl hgs
 obtain ⟨lim,gr,hr,gs,ga,gc⟩:=B
 simp only [bv] at *
 subst hga
 go_enter s68,ntmps68
 go_upto_region 3 with fail
 have h0:=GO.start w lim gr hr (some ⟨b,o,none⟩) gc n gs 26
 generalize (((w.alloc (.cells #[.int .i64 lim.1,.int .i64 lim.2,.int .i64 gr,.int .i64 hr,.slice (some ⟨b,o,none⟩) gs.length gc] 26)).alloc (.cells #[.int .i64 0,.int .i64 0,.int .i64 0,.int .i64 0,.slice none 0 0] 26)).alloc (.cells #[.int .i64 lim.1,.int .i64 lim.2,.int .i64 gr,.int .i64 hr,.slice none 0 0] 26))=W0 at h0 ⊢
 go_wp2
 go_loopw [6] (fun i wr=>∃(k:Nat) (v:Value) (l:List Grp),i=.int .i64 k∧k≤gs.length∧Hid (GO w wr lim gr hr (some ⟨b,o,none⟩) gc n gs v k l)) (fun i _=>gs.length - (intOf i).toNat)
 case atStart=>exact ⟨0,_,_,rfl,Nat.zero_le _,Lib.hid h0⟩
 case round =>
  clear h0
  obtain ⟨k,v,l,rfl,hk,h⟩:=hrel
  have hBr:=h.out.bw
  have q4:=h.out.arg.c.2.2.2.2
  by_cases hlt:k < gs.length
  ·obtain ⟨x,hx⟩:∃x,gs[k]? = some x:=⟨gs[k],by simp [hlt]⟩
   have hm:=List.mem_of_getElem? hx
   obtain ⟨c0,c1,c2⟩:=HC.out k x hx
   obtain ⟨xb,xo,hxa,hxp⟩:=HB.out.traf x hm (HF.out x hm)
   rw [hxa] at c2
   have c0:=qb _ hBr c0
   have c1:=qb _ hBr c1
   have c2:=qb _ hBr c2
   have q2:=h.out.arg.c.2.2.1
   have xl:=(HB.out.small.2 x hm).1
   have xl1:=HF.out x hm
   have xT:=(HV.out.grp x hm).traf
   have HX:=Lib.hid (And.intro hx (hxp.keep hBr))
   have k0:(0:Int)≤(k:Int):=Int.natCast_nonneg k
   have k1:(k:Int) < (gs.length:Int):=by omega
   have XT:=Lib.hid xT
   clear hx hm hxp hxa xT
   go_wp2
   obtain ⟨V,hVe⟩:∃V,V=wr:=⟨_,rfl⟩
   subst hVe
   have hI0:=GI.start V (jR gr n) x 56
   generalize V.alloc (.cells #[.string x.name,.int .i64 x.trunks,.slice none 0 0] 56)=W1 at hI0 ⊢
   go_loopw [8] (fun i wr=>∃(j:Nat) (u:Value),i=.int .i64 j∧j≤x.traffic.length∧Hid (GI V wr (jR gr n) x u j)) (fun i _=>x.traffic.length - (intOf i).toNat)
   case atStart=>exact ⟨0,_,rfl,Nat.zero_le _,Lib.hid hI0⟩
   case round =>
    clear hI0
    obtain ⟨j,u,rfl,hjl,hI⟩:=hrel
    have hB3:=hI.out.bw
    have c2':=c2
    have c2:=qb _ hB3 c2
    have q4:=qb _ hB3 q4
    have q2:=qb _ hB3 q2
    have a2:=hI.out.c2
    have g2:=hI.out.f2
    by_cases hlt2:j < x.traffic.length
    ·obtain ⟨y,hy⟩:∃y,x.traffic[j]? = some y:=⟨x.traffic[j],by simp [hlt2]⟩
     obtain ⟨y0,y1⟩:=HX.out.2 j y hy
     have y0:=qb _ hB3 y0
     have y1:=qb _ hB3 y1
     have hla:=fun W=>qdU y gr n (XT.out y (List.mem_of_getElem? hy)) ⟨hr1.1.1,hr1.1.2⟩ hn W
     have HY:=Lib.hid hy
     have j00:(0:Int)≤(j:Int):=Int.natCast_nonneg j
     have j1:(j:Int) < (x.traffic.length:Int):=by omega
     simp only [fv] at hla
     clear hy
     have hown0:=hI.out.own
     have lV:V.heap.size < wr.heap.size:=lt_of_cell a2
     have jT:j < 20:=by omega
     go_upto_block 3 with fail
     go_cut [] from 35 to 52 (fun wx=>∃u',GI V wx (jR gr n) x u' (j+1))
     case first =>
      go_wp2_with fail
      go_region_law (first | (refine step_append_lies _ (by rfl) (.tmp 36) (.tmp 50) 54 (by rfl) (V.heap.size+1) 23 j0 _ 2 16 ((zf _).trans Tryz.underlying54) hj jz0 jz1 jz2 rfl (by omega) u j (qB ((x.traffic.take j).map (jR gr n))) (by rfl) (hI4.own.alloc _) ⟨w4.heap.size,0,none⟩ 1 1 [.int .i64 (jR gr n y).1,.int .i64 (jR gr n y).2] (by rfl) (by rfl) (World.news_of_block (cs:=#[.int .i64 (jR gr n y).1,.int .i64 (jR gr n y).2]) (t:=23) (fr:=(0,0)) (heap_alloc_new w4 _)) (by simp [Value.oneCell']) (by omega) (by unfold maxLen;omega) (by omega) (by simp;omega) (w4.heap.size+1) (by simp) ?_;intro gg cap w5 hown1 hgrow hat hlt3;obtain ⟨a5,f5⟩:=(hI4.keep ((Below.refl _ w4).alloc (Nat.le_refl _) _)).hold hgrow) | (go_simp;go_wp2_with (go_at_call 118;(with_reducible refine (hla _).mono ?_);rintro e w4 ⟨rfl,hB4⟩;have hI4:=hI.out.keep (bcl (w:=wr) ((Below.refl _ wr).drew) hB4);have a4:=hI4.c2;have l4:=lt_of_cell a4)) | fail)
      all_goals (go_wp2_with fail;go_meet;exact ⟨_,(hI4.keep ((Below.refl _ w4).alloc (Nat.le_refl _) _)).step HY.out hgrow hown1⟩)
     case rest =>
      obtain ⟨u',hI'⟩:=hcut
      go_wp2
      go_roundw
      case rel=>exact ⟨j+1,u',rfl,by omega,Lib.hid hI'⟩
      case measure=>simp [intOf];omega
    ·obtain rfl:j=x.traffic.length:=by omega
     have hO:=hI.out.own
     obtain ⟨t,tc,rfl,_,_⟩:=hO.form xl1
     obtain ⟨_,_,et,t1,t2,t3,hOA⟩:=jr hO (fun e=>by cases e)
     cases et
     rw [List.take_length] at hOA
     have hp:=YO hOA
     have HPP:=Lib.hid hp
     have y0:=hI.out.c0
     have y1:=hI.out.c1
     have y2:=hI.out.c2
     obtain ⟨⟨o0,o1,o2,o3,o4⟩,⟨g0,g1,g2,g3,g4⟩⟩:=h.out.o.keep hB3
     have hvo:=yw h.out.own hB3
     have lB:=h.out.bw.size
     have lO:w.heap.size+1+1 < wr.heap.size:=lt_of_cell o4
     have hlt3:=h.out.own.lt
     have hne:some (w.heap.size+1+1)≠v.ownBlock:=fun e=>by have:=(hlt3 _ e.symm).1;omega
     have lO1:w.heap.size+1+1 < wr.heap.size+1:=Nat.lt_succ_of_lt lO
     clear hp hO hOA o0 o1 o2 o3 g0 g1 g2 g3
     obtain ⟨hi,iz0,iz1,iz2⟩:=id HI.out
     go_wp2_with (at_builtin;refine wpList_append_lies _ rfl (.tmp 54) (.tmp 56) 24 rfl (w.heap.size+1+1+1) 56 i0 _ 3 48 ((zf _).trans Tryz.underlying24) hi iz0 iz1 iz2 rfl (by decide) v k (qI l) rfl (hvo.alloc _) ⟨wr.heap.size,0,none⟩ 1 1 [.string x.name,.int .i64 x.trunks,.slice (some ⟨t,0,none⟩) x.traffic.length tc] rfl rfl (World.news_of_block (cs:=#[.string x.name,.int .i64 x.trunks,.slice (some ⟨t,0,none⟩) x.traffic.length tc]) (t:=56) (fr:=(0,0)) (heap_alloc_new wr _)) (by simp [Value.oneCell']) (by omega) (by unfold maxLen;omega) (by omega) (by simp;omega) (wr.heap.size+1) (by simp) ?_;intro gg cap w5 hown1 hgrow hat hlt5;have o5:=hgrow.cell (qb _ ((Below.refl _ wr).alloc (Nat.le_refl _) _) o4) hne;have g5:w5.frozen? ⟨w.heap.size+1+1,4,none⟩=false:=by rw [hgrow.frozen_far ⟨w.heap.size+1+1,4,none⟩ (by show w.heap.size+1+1 < _;rw [World.size_alloc];exact lO1) hne];exact qg _ ((Below.refl _ wr).alloc (Nat.le_refl _) _) o4 g4)
     go_roundw
     case rel =>
      exact ⟨k+1,_,_,rfl,by omega,Lib.hid (h.out.step HX.out.1 (bcl (w:=V) hI.out.bw ((Below.refl _ wr).alloc (Nat.le_refl _) _)) (by omega) (by simp;omega) (HPP.out.keep ((Below.refl _ wr).alloc (Nat.le_refl _) _)) hgrow (by simpa using hat) hown1)⟩
     case measure=>simp [intOf];omega
  ·obtain rfl:k=gs.length:=by omega
   have hO:=h.out.own
   obtain ⟨g,cap,rfl,_,_⟩:=hO.form hl1
   obtain ⟨_,_,et,t1,t2,t3,hOA⟩:=jr hO (fun e=>by cases e)
   cases et
   obtain ⟨⟨c0,c1,c2,c3,c4⟩,⟨f0,f1,f2,f3,f4⟩⟩:=h.out.o
   obtain ⟨⟨r0,r1,r2,r3,r4⟩,⟨e0,e1,e2,e3,e4⟩⟩:=h.out.res
   have HO:=Lib.hid hOA
   clear hO hOA
   go_wp2
   have hsame:=h.out.same
   rw [List.take_length] at hsame
   have hll:l.length=gs.length:=by rw [hsame.1,List.length_map]
   refine qct results68 zV zH rfl r0 r1 r2 r3 r4 ⟨⟨l,g,cap,by show _=Ending.returned (.agg #[_,_,_,_,.slice (some ⟨g,0,none⟩) l.length cap]);rw [hll],by rw [HS.out];exact hsame,?_⟩,Below.set5 h.out.bw (by omega)⟩
   refine ⟨?_,fun _ b' o' e=>(by cases e;omega),fun y hy _ b' o' e=>(by obtain ⟨t,q1,q2,_⟩:=h.out.ta y hy;rw [q1] at e;cases e;omega)⟩
   refine ⟨fun _=>⟨g,0,rfl,YN (HO.out.five (by omega))⟩,fun y hy hyl=>?_,⟨by show l.length≤20;rw [hll];exact HB.out.small.1,fun y hy=>?_⟩,by show l.length≤cap;rw [hll];exact t3⟩
   ·obtain ⟨t,q1,q2,q3,q4,q5⟩:=h.out.ta y hy
    exact ⟨t,0,q1,fun i z hz=>⟨QE (q5 i z hz).1 (by omega),QE (q5 i z hz).2 (by omega)⟩⟩
   ·obtain ⟨i,hi,rfl⟩:=List.getElem_of_mem hy
    have hi':i < gs.length:=by rw [← hll];exact hi
    obtain ⟨s1,s2,s3⟩:=hsame.2 i (yrG gr n gs[i]) l[i] (by rw [List.getElem?_map,List.getElem?_eq_getElem hi'];rfl) (List.getElem?_eq_getElem hi)
    have z:=HB.out.small.2 gs[i] (List.getElem_mem _)
    have z1:=congrArg ByteArray.size s1
    have z3:=congrArg List.length s3
    simp only [yrG,List.length_map] at z1 z3
    exact ⟨by show (l[i]).traffic.length≤20;omega,by show (l[i]).name.size≤100;omega⟩
end Go.Proofs.Tryz
