/-
  Lemmas about the program and the machine (B26 to B26), upon which the last text of this claim rests; no condition.
-/
import Derived.Deep.CutBlock
import Derived.Test.YtodbbjmchbgpiaaGreatDoorM22
set_option linter.unusedSimpArgs false
set_option linter.unusedVariables false
section
namespace Go.Proofs.Tryz
open Go Go.Load Go.RowKit
open Go.Proofs.YtodbbjmchbgpiaaGreatDoor (BookIn)
theorem s3:qg.funcs[3]? = some f3:=by kernel_rfl
abbrev RT (W:World) (a1 a2 a3 a4 a5 a6 a7 a8 a9 b1 b2 b3:Addr) (v1 v2 v3 v4 v5 v6 v7 v8 v9 u1 u2 u3:Value) (X:World):Prop :=
 X.cell? a1=some v1∧X.cell? a2=some v2∧X.cell? a3=some v3∧X.cell? a4=some v4∧X.cell? a5=some v5∧X.cell? a6=some v6∧X.cell? a7=some v7∧X.cell? a8=some v8∧X.cell? a9=some v9∧X.cell? b1=some u1∧X.cell? b2=some u2∧X.cell? b3=some u3∧Below W.heap.size W X
theorem RT.call {W X Y:World} {a1 a2 a3 a4 a5 a6 a7 a8 a9 b1 b2 b3:Addr} {v1 v2 v3 v4 v5 v6 v7 v8 v9 u1 u2 u3:Value} (h:RT W a1 a2 a3 a4 a5 a6 a7 a8 a9 b1 b2 b3 v1 v2 v3 v4 v5 v6 v7 v8 v9 u1 u2 u3 X) (hB:Below X.heap.size X Y):RT W a1 a2 a3 a4 a5 a6 a7 a8 a9 b1 b2 b3 v1 v2 v3 v4 v5 v6 v7 v8 v9 u1 u2 u3 Y:=by
 obtain ⟨h1,h2,h3,h4,h5,h6,h7,h8,h9,k1,k2,k3,hb⟩:=h
 exact ⟨qb _ hB h1,qb _ hB h2,qb _ hB h3,qb _ hB h4,qb _ hB h5,qb _ hB h6,qb _ hB h7,qb _ hB h8,qb _ hB h9,qb _ hB k1,qb _ hB k2,qb _ hB k3,bcl hb hB⟩
theorem RT.bel {W X:World} {a1 a2 a3 a4 a5 a6 a7 a8 a9 b1 b2 b3:Addr} {v1 v2 v3 v4 v5 v6 v7 v8 v9 u1 u2 u3:Value} (h:RT W a1 a2 a3 a4 a5 a6 a7 a8 a9 b1 b2 b3 v1 v2 v3 v4 v5 v6 v7 v8 v9 u1 u2 u3 X):Below W.heap.size W X:=h.2.2.2.2.2.2.2.2.2.2.2.2
set_option maxHeartbeats 8000000 in
set_option maxRecDepth 100000 in
theorem Jn (HL:∀W,Globs W→Calls qg 9 #[] W fun e w'=>e=.returned (.bool true)∧Below W.heap.size W w') (B:Bk) (hour which trunks:Int) (hh:0≤hour∧hour≤255) (hw:0≤which∧which≤255) (ht:0≤trunks∧trunks≤255) (w:World) (hG:Globs w) (hB:BookIn w B) (hc:B.gs.length≤B.gc) (hf:fitB B=true) :
 Calls qg 3 #[bv B,.int .u8 hour,.int .u8 which,.int .u8 trunks] w fun e w'=>e=.returned (.bool true)∧Below w.heap.size w w':=by
 have hfi:=fun W (h:Below w.heap.size w W)=>Jk B W (hB.keep h) hc
 obtain ⟨hmo,hck,hV⟩:=qeZ hf
 simp only [hf] at hfi
 have hat:=hB.at (ZK hmo) hc
 have hl1:=hV.len1
 have hl4:=hV.len4
 have hr1:=hV.num.2.2
 have ww1:IntKind.i64.wrap hour=hour:=by rw [IntKind.wrap_i64];omega
 have ww2:IntKind.i64.wrap which=which:=by rw [IntKind.wrap_i64];omega
 have ww3:IntKind.i64.wrap trunks=trunks:=by rw [IntKind.wrap_i64];omega
 obtain ⟨hN,eh,hlt⟩:∃hN:Nat,hour.tmod B.hours=hN∧(hN:Int) < B.hours:=by
  have h1:=Int.emod_nonneg hour (show B.hours≠0 by omega)
  have h2:=Int.emod_lt_of_pos hour (show 0 < B.hours by omega)
  have e:hour.tmod B.hours=hour % B.hours:=Int.tmod_eq_emod_of_nonneg hh.1
  exact ⟨(hour % B.hours).toNat,by omega,by omega⟩
 obtain ⟨k,ek,hkl⟩:∃k:Nat,which.tmod (B.gs.length:Int)=k∧k < B.gs.length:=by
  have h1:=Int.emod_nonneg which (show (B.gs.length:Int)≠0 by omega)
  have h2:=Int.emod_lt_of_pos which (show 0 < (B.gs.length:Int) by omega)
  have e:which.tmod (B.gs.length:Int)=which % (B.gs.length:Int):=Int.tmod_eq_emod_of_nonneg hw.1
  exact ⟨(which % (B.gs.length:Int)).toNat,by omega,by omega⟩
 have n1:¬ B.hours=0:=by omega
 have n2:¬ (B.gs.length:Int)=0:=by omega
 obtain ⟨g,hg⟩:∃g,B.gs[k]? = some g:=⟨B.gs[k],List.getElem?_eq_getElem hkl⟩
 obtain ⟨_,_,n,_,_,_,hn,hn7,_⟩:=jG hV hlt (List.mem_of_getElem? hg)
 obtain ⟨T,eT,hT⟩:∃T:Nat,trunks.tmod ((n:Int)+1)=T∧T≤n:=by
  have h1:=Int.emod_nonneg trunks (show (n:Int)+1≠0 by omega)
  have h2:=Int.emod_lt_of_pos trunks (show 0 < (n:Int)+1 by omega)
  have e:trunks.tmod ((n:Int)+1)=trunks % ((n:Int)+1):=Int.tmod_eq_emod_of_nonneg ht.1
  exact ⟨(trunks % ((n:Int)+1)).toNat,by omega,by omega⟩
 have wn:IntKind.i64.wrap ((n:Int)+1)=(n:Int)+1:=by rw [IntKind.wrap_i64];omega
 have n3:(((n:Int)+1) == 0)=false:=by rw [beq_eq_false_iff_ne];omega
 have n3':¬ (n:Int)+1=0:=by omega
 have hs1:=fun W (h:Below w.heap.size w W)=>qbt W (hat.keep h) (hG.keep h) hck hlt
 have hch:=fun W (h:Below w.heap.size w W)=>Zu (k:=k) (T:=T) W (hat.keep h) (hG.keep h) hck hkl (by omega)
 have hrow:=hB.row hl1
 have hck1:=Qq hck (k:=k) (t:=(T:Int)) (by omega) (by omega)
 have hle:∀l,qZ (yL B.gs k (T:Int)) l→qaf hN B.gs≤qaf hN l:=fun l hs=>sum_less hV hlt hg (by omega) hs
 have hs0:=ZU hV hlt B.gs.length (Nat.le_refl _)
 rw [qgA] at hs0
 have HLE:=Lib.hid hle
 have HSM:=Lib.hid (fun i=>ZU hV hlt (k:=i))
 have HNM:=Lib.hid (fun i=>Xa hV hlt (k:=i))
 have HSS:=Lib.hid (fun (i:Nat) (x:Grp) (hx:B.gs[i]? = some x)=>Xp (h:=hN) hx)
 have HNS:=Lib.hid (fun (i:Nat) (x:Grp) (hx:B.gs[i]? = some x)=>XU (h:=hN) hx)
 have HGH:=Lib.hid (fun (x:Grp) (hx:x∈B.gs)=>jG hV hlt hx)
 have HNN:=Lib.hid (fun l l' (hl:l.length=B.gs.length) ht hs=>sum_none hV hlt (l:=l) (l':=l') hl ht hs)
 have HSG:=Lib.hid (qgA B hN)
 have hs00:XI B hN 0=0:=by simp [XI]
 have hn00:Zk B hN 0=0:=by simp [Zk]
 have HTR:=Lib.hid hB.traf
 have HAT:=Lib.hid hat
 have HCK:=Lib.hid hck
 have HC1:=Lib.hid hck1
 have HV:=Lib.hid hV
 have HG:=Lib.hid hG
 have HGK:=Lib.hid hg
 have hs0a:=hs0.1
 have hs0b:=hs0.2
 clear hat hf hmo hc hB hV hck hck1 hle hs0 hg
 obtain ⟨b,o,hga,hcs⟩:=hrow
 have c1:=(hcs k g HGK.out).2.1
 rw [hn] at c1
 have HC:=Lib.hid hcs
 clear hcs
 obtain ⟨lim,gr,hr,gs,ga,gc⟩:=B
 simp only [bv] at *
 subst hga
 generalize hSB:qaf hN gs=SB at *
 have HSB:=Lib.hid hSB
 clear hSB
 go_enter s3,ntmps3
 go_upto_region 3 with (go_at_call 8;(with_reducible refine (hfi _ (by go_grown)).mono ?_);rintro e w1 ⟨rfl,hB1⟩;(first | (replace hB:=bcl (by with_reducible assumption) hB1) | (replace hB:=bcl (by go_grown) hB1) | (have hB:=hB1));(try clear hc hg hz);obtain ⟨hc,hg⟩:=qC hB;have hz:=hB.size;clear hB1;(try simp at hz);(try have hlt0:w.heap.size < w1.heap.size:=by omega))
 obtain ⟨wz,hwz⟩:∃wz,wz=w.heap.size:=⟨_,rfl⟩
 have h:KSt w w1 [(⟨wz,0,none⟩,.int .i64 lim.1),(⟨wz,1,none⟩,.int .i64 lim.2),(⟨wz,2,none⟩,.int .i64 gr),(⟨wz,3,none⟩,.int .i64 hr),(⟨wz,4,none⟩,.slice (some ⟨b,o,none⟩) gs.length gc)]:=by
  have hBW:Below w.heap.size w w1:=bcl (w:=w) (by go_grown) hB
  refine ⟨fun p hp=>?_,HG.out.keep hBW,hBW⟩
  simp only [List.mem_cons,List.not_mem_nil,or_false] at hp
  rcases hp with rfl | rfl | rfl | rfl | rfl <;> (rw [hwz];go_cell)
 obtain ⟨⟨q0,q1,q2,q3,q4⟩,_⟩:=h.c5
 have qz:=lt_of_cell q0
 rw [← hwz]
 clear hc hg hB hz hwz hfi
 go_cut [9,10] from 31 to 41 (fun s9 s10 wx=>s9=.int .i64 hN∧s10=.int .i64 k∧Below w1.heap.size w1 wx)
 case first =>
  clear q0 q1 q2 c1
  go_region
  all_goals (go_wp2_with fail;go_meet;exact ⟨rfl,rfl,(Below.refl _ _).drew⟩)
 case rest =>
 obtain ⟨rfl,rfl,hB⟩:=hcut
 obtain ⟨WC,rfl⟩:∃W,W=wc:=⟨_,rfl⟩
 replace h:=h.call hB
 clear q0 q1 q2 q3 q4 qz
 clear hB
 obtain ⟨⟨q0,q1,q2,q3,q4⟩,_⟩:=h.c5
 have qz:=lt_of_cell q0
 go_upto_region 5 with (go_at_call 10;(with_reducible refine (hs1 _ h.bw).mono ?_);rintro e w2 ⟨rfl,hB⟩;replace h:=h.call hB;clear q0 q1 q2 q3 q4 qz;clear hB;obtain ⟨⟨q0,q1,q2,q3,q4⟩,_⟩:=h.c5;have qz:=lt_of_cell q0)
 obtain ⟨WF,rfl⟩:∃W,W=w2:=⟨_,rfl⟩
 have c1':=qb _ h.bw c1
 have hS:RN WF ⟨wz,0,none⟩ ⟨wz,1,none⟩ ⟨wz,2,none⟩ ⟨wz,3,none⟩ ⟨wz,4,none⟩ ⟨b,o+k * 3+1,none⟩ (.int .i64 lim.1) (.int .i64 lim.2) (.int .i64 gr) (.int .i64 hr) (.slice (some ⟨b,o,none⟩) gs.length gc) (.int .i64 n) WF:=⟨q0,q1,q2,q3,q4,c1',Below.refl _ _⟩
 have nbl:b < WF.heap.size:=lt_of_cell c1'
 have HCH:=Lib.hid hch
 have HBW:=Lib.hid h.bw
 have i1:(k:Int) < (gs.length:Int):=by omega
 have i2:(0:Int)≤(k:Int):=Int.natCast_nonneg k
 clear hch c1
 go_cut [13,14] from 49 to 63 (fun p al wx=>al=.int .i64 0∧∃q g' gc' l tb,p=.pointer (some ⟨q,0,none⟩)∧WF.heap.size≤q∧Five wx q (.int .i64 lim.1) (.int .i64 lim.2) (.int .i64 gr) (.int .i64 hr) (.slice (some ⟨g',0,none⟩) gs.length gc')∧OB wx q (yL gs k T) g' gc' l tb∧Below WF.heap.size WF wx)
 case first =>
  have zz0:=Lib.hid (zA (qm WF #[.int .i64 0,.int .i64 0,.int .i64 0,.int .i64 0,.slice none 0 0] 26 0 (by simp)))
  have yy0:=Lib.hid (zm (qD WF #[.int .i64 0,.int .i64 0,.int .i64 0,.int .i64 0,.slice none 0 0] 26 0 (by simp)))
  have zz1:=Lib.hid (zA (qm WF #[.int .i64 0,.int .i64 0,.int .i64 0,.int .i64 0,.slice none 0 0] 26 1 (by simp)))
  have yy1:=Lib.hid (zm (qD WF #[.int .i64 0,.int .i64 0,.int .i64 0,.int .i64 0,.slice none 0 0] 26 1 (by simp)))
  have zz2:=Lib.hid (zA (qm WF #[.int .i64 0,.int .i64 0,.int .i64 0,.int .i64 0,.slice none 0 0] 26 2 (by simp)))
  have yy2:=Lib.hid (zm (qD WF #[.int .i64 0,.int .i64 0,.int .i64 0,.int .i64 0,.slice none 0 0] 26 2 (by simp)))
  have zz3:=Lib.hid (zA (qm WF #[.int .i64 0,.int .i64 0,.int .i64 0,.int .i64 0,.slice none 0 0] 26 3 (by simp)))
  have yy3:=Lib.hid (zm (qD WF #[.int .i64 0,.int .i64 0,.int .i64 0,.int .i64 0,.slice none 0 0] 26 3 (by simp)))
  have zz4:=Lib.hid (zA (qm WF #[.int .i64 0,.int .i64 0,.int .i64 0,.int .i64 0,.slice none 0 0] 26 4 (by simp)))
  have yy4:=Lib.hid (zm (qD WF #[.int .i64 0,.int .i64 0,.int .i64 0,.int .i64 0,.slice none 0 0] 26 4 (by simp)))
  clear q0 q1 q2 q3 q4 c1'
  go_region_held3 (RN WF ⟨wz,0,none⟩ ⟨wz,1,none⟩ ⟨wz,2,none⟩ ⟨wz,3,none⟩ ⟨wz,4,none⟩ ⟨b,o+k * 3+1,none⟩ (.int .i64 lim.1) (.int .i64 lim.2) (.int .i64 gr) (.int .i64 hr) (.slice (some ⟨b,o,none⟩) gs.length gc) (.int .i64 n)) (first | with_reducible exact RN.drew hS | with_reducible exact hX | with_reducible exact RN.alloc hX _ | with_reducible exact (RN.alloc hS _).drew | with_reducible exact RN.set5 hX (Nat.le_refl _) qz qz qz qz qz nbl _ _ _ _ _) (first | (go_at_call 11;have hS1:RN WF ⟨wz,0,none⟩ ⟨wz,1,none⟩ ⟨wz,2,none⟩ ⟨wz,3,none⟩ ⟨wz,4,none⟩ ⟨b,o+k * 3+1,none⟩ (.int .i64 lim.1) (.int .i64 lim.2) (.int .i64 gr) (.int .i64 hr) (.slice (some ⟨b,o,none⟩) gs.length gc) (.int .i64 n) _:=(by with_reducible assumption);(with_reducible refine (HCH.out _ (bcl HBW.out hS1.bel)).mono ?_);rintro e wy ⟨⟨g',gc',l,tb,rfl,hSm,hOw,hcg⟩,hB⟩;have hX:=RN.call hS1 hB;(try with_reducible (have z0:=qb _ hB zz0.out;have y0:=qd _ hB zz0.out yy0.out;have z1:=qb _ hB zz1.out;have y1:=qd _ hB zz1.out yy1.out;have z2:=qb _ hB zz2.out;have y2:=qd _ hB zz2.out yy2.out;have z3:=qb _ hB zz3.out;have y3:=qd _ hB zz3.out yy3.out;have z4:=qb _ hB zz4.out;have y4:=qd _ hB zz4.out yy4.out))))
  all_goals
   go_wp2_with fail
   go_meet
   first
    | exact ⟨rfl,_,g',gc',l,tb,rfl,hX.bel.size,Five.new wy _ _ _ _ _ _,(OB.ahead hSm hOw hcg (Nat.le_refl _)).keep ((Below.refl _ wy).alloc (Nat.le_refl _) _),(RN.alloc hX _).bel⟩
    | exact ⟨rfl,_,g',gc',l,tb,rfl,Nat.le_refl _,Five.put _ _ _ _ _ ⟨⟨z0,z1,z2,z3,z4⟩,⟨y0,y1,y2,y3,y4⟩⟩,(OB.behind hSm hOw hcg (by first | (simp;done) | (simp;omega))).set5,(RN.set5 hX (Nat.le_refl _) qz qz qz qz qz nbl _ _ _ _ _).bel⟩
 case rest =>
 obtain ⟨rfl,q,g',gc',l,tb,rfl,hq,hFv,hO,hB⟩:=hcut
 obtain ⟨WG,rfl⟩:∃W,W=wc:=⟨_,rfl⟩
 replace h:=h.call hB
 clear q0 q1 q2 q3 q4 c1' hS nbl HCH
 clear hB
 obtain ⟨⟨q0,q1,q2,q3,q4⟩,_⟩:=h.c5
 have hqz:wz≠q:=by omega
 have hqw:w.heap.size≤q:=Nat.le_trans HBW.out.size hq
 obtain ⟨⟨u0,u1,u2,u3,u4⟩,_⟩:=id hFv
 have hsm:(yL gs k (T:Int)).length≤20∧∀x∈yL gs k (T:Int),x.traffic.length≤20∧x.name.size≤100:=Jb HAT.out.small k T
 have HSL:=Lib.hid hsm
 have el:l.length=gs.length:=by rw [hO.len,qH]
 have hs2:=qbt _ (hO.book (B:=⟨lim,gr,hr,gs,some ⟨b,o,none⟩,gc⟩) hsm) h.gl (hO.check (B:=⟨lim,gr,hr,gs,some ⟨b,o,none⟩,gc⟩) HC1.out) hlt
 simp only [bv,el] at hs2
 have hle:=HLE.out l hO.same
 generalize hSO:qaf hN l=SO at *
 have ib:¬ SO < SB:=by omega
 have ia:¬ SB < 0:=by omega
 have HOB:=Lib.hid hO
 have HFV:=Lib.hid hFv
 clear hsm hle hSO hO hFv el
 go_upto_region 9 with (go_at_call 10;(with_reducible refine hs2.mono ?_);rintro e w3 ⟨rfl,hB⟩;replace h:=h.call hB;replace HOB:=Lib.hid (HOB.out.keep hB);replace HFV:=Lib.hid (HFV.out.keep hB);clear q0 q1 q2 q3 q4 u0 u1 u2 u3 u4;clear hB;obtain ⟨⟨q0,q1,q2,q3,q4⟩,_⟩:=h.c5)
 clear hs1 hs2 ib ia
 obtain ⟨WH,rfl⟩:∃W,W=w3:=⟨_,rfl⟩
 go_wp2
 go_loopw [17,18] (fun s i wr=>∃j:Nat,i=.int .i64 j∧j≤gs.length∧s=.int .i64 (XI ⟨lim,gr,hr,gs,some ⟨b,o,none⟩,gc⟩ hN j)∧∃g' gc' l tb,OB wr q (zer (yL gs k T) j) g' gc' l tb∧Five wr q (.int .i64 lim.1) (.int .i64 lim.2) (.int .i64 gr) (.int .i64 hr) (.slice (some ⟨g',0,none⟩) gs.length gc')∧KSt w wr [(⟨wz,0,none⟩,.int .i64 lim.1),(⟨wz,1,none⟩,.int .i64 lim.2),(⟨wz,2,none⟩,.int .i64 gr),(⟨wz,3,none⟩,.int .i64 hr),(⟨wz,4,none⟩,.slice (some ⟨b,o,none⟩) gs.length gc)]) (fun _ i _=>gs.length - (intOf i).toNat)
 case atStart=>exact ⟨0,rfl,Nat.zero_le _,by rw [hs00],g',gc',l,tb,HOB.out,HFV.out,h⟩
 case round =>
  clear HOB HFV h q0 q1 q2 q3 q4 qz
  obtain ⟨j,rfl,hj,rfl,g',gc',l,tb,hO,hFv,h⟩:=hrel
  obtain ⟨WR,rfl⟩:∃W,W=wr:=⟨_,rfl⟩
  obtain ⟨⟨q0,q1,q2,q3,q4⟩,_⟩:=h.c5
  obtain ⟨hsj0,hsj1⟩:=HSM.out j hj
  by_cases hlt2:j < gs.length
  ·obtain ⟨gj,hgj⟩:∃gj,gs[j]? = some gj:=⟨gs[j]'(by omega),List.getElem?_eq_getElem _⟩
   have hmj:=List.mem_of_getElem? hgj
   obtain ⟨t,d,m,hx,ht12,hd4,hm,hm7,eh3⟩:=HGH.out gj hmj
   have htl:=(List.getElem?_eq_some_iff.1 hx).1
   obtain ⟨xb,xq,etx,hpx⟩:=HTR.out gj hmj (by omega)
   obtain ⟨p0,p1⟩:=hpx hN _ hx
   obtain ⟨_,t1,t2⟩:=HC.out j gj hgj
   rw [hm] at t1
   rw [etx] at t2
   have p0:=qb _ h.bw p0
   have p1:=qb _ h.bw p1
   have t1:=qb _ h.bw t1
   have t2:=qb _ h.bw t2
   simp only at p0 p1
   have hS:RN WR ⟨wz,3,none⟩ ⟨wz,4,none⟩ ⟨b,o+j * 3+1,none⟩ ⟨b,o+j * 3+2,none⟩ ⟨xb,xq+hN * 2,none⟩ ⟨xb,xq+hN * 2+1,none⟩ (.int .i64 hr) (.slice (some ⟨b,o,none⟩) gs.length gc) (.int .i64 m) (.slice (some ⟨xb,xq,none⟩) gj.traffic.length gj.tc) (.int .i64 t) (.int .i64 d) WR:=⟨q3,q4,t1,t2,p0,p1,Below.refl _ _⟩
   have l1:wz < WR.heap.size:=lt_of_cell q3
   have l2:b < WR.heap.size:=lt_of_cell t1
   have l3:xb < WR.heap.size:=lt_of_cell p0
   have hlo:=fun W=>Yq m ((t:Int),(d:Int)) W
   rw [Xq ht12 hd4 hm7,← eh3] at hlo
   obtain ⟨f1,f2,_,_⟩:=qck ht12 hd4 hm7
   rw [← eh3] at f1 f2
   have HF1:=Lib.hid f1
   have HF2:=Lib.hid f2
   have hsn:=HSS.out j gj hgj
   generalize XI ⟨lim,gr,hr,gs,some ⟨b,o,none⟩,gc⟩ hN j=s at *
   generalize zH gj hN 3=r at *
   obtain ⟨r1,r2⟩:=r
   simp only [tv,fv] at hlo hsn
   have j1:(j:Int) < (gs.length:Int):=by omega
   have j2:(0:Int)≤(j:Int):=Int.natCast_nonneg j
   have j3:(hN:Int) < (gj.traffic.length:Int):=by omega
   have j4:(0:Int)≤(hN:Int):=Int.natCast_nonneg hN
   have HSN:=Lib.hid hsn
   have HX:=Lib.hid hx
   have HGJ:=Lib.hid hgj
   have HOB:=Lib.hid hO
   have HFV:=Lib.hid hFv
   have hK:KSt WR WR []:=⟨fun p hp=>absurd hp (by simp),h.gl,Below.refl _ _⟩
   clear hsn f1 f2 eh3 hx hgj hmj etx hpx hm hO hFv
   go_upto_region 13 with fail
   go_cut [19,20] from 97 to 114 (fun p s wx=>∃z,p=.pointer (some ⟨z,0,none⟩)∧s=.int .i64 0∧KSt WR wx [(⟨z,0,none⟩,.int .i64 r1),(⟨z,1,none⟩,.int .i64 r2)])
   case first =>
    as_aux_lemma =>
     clear q0 q1 q2 q3 q4 p0 p1 t1 t2 h
     go_region_held3 (RN WR ⟨wz,3,none⟩ ⟨wz,4,none⟩ ⟨b,o+j * 3+1,none⟩ ⟨b,o+j * 3+2,none⟩ ⟨xb,xq+hN * 2,none⟩ ⟨xb,xq+hN * 2+1,none⟩ (.int .i64 hr) (.slice (some ⟨b,o,none⟩) gs.length gc) (.int .i64 m) (.slice (some ⟨xb,xq,none⟩) gj.traffic.length gj.tc) (.int .i64 t) (.int .i64 d)) (first | with_reducible exact RN.drew hS | with_reducible exact hX | with_reducible exact RN.alloc hX _ | with_reducible exact (RN.alloc hS _).drew | with_reducible exact RN.set (RN.set hX (Nat.le_refl _) l1 l1 l2 l2 l3 l3 _) (Nat.le_refl _) l1 l1 l2 l2 l3 l3 _) (first | (go_at_call 12;(with_reducible refine (hlo _).mono ?_);rintro e wy ⟨rfl,hB⟩;have hX:=RN.call (by assumption) hB;(try (have c0:wy.cell? ⟨WR.heap.size,0,none⟩=some (.int .i64 0):=qb _ hB (qm WR #[.int .i64 0,.int .i64 0] 23 0 (by decide));have c1:wy.cell? ⟨WR.heap.size,1,none⟩=some (.int .i64 0):=qb _ hB (qm WR #[.int .i64 0,.int .i64 0] 23 1 (by decide));have y0:wy.frozen? ⟨WR.heap.size,0,none⟩=false:=qd _ hB (qm WR #[.int .i64 0,.int .i64 0] 23 0 (by decide)) (qD WR #[.int .i64 0,.int .i64 0] 23 0 (by decide));have y1:wy.frozen? ⟨WR.heap.size,1,none⟩=false:=qd _ hB (qm WR #[.int .i64 0,.int .i64 0] 23 1 (by decide)) (qD WR #[.int .i64 0,.int .i64 0] 23 1 (by decide))))))
     all_goals (go_wp2_with fail;go_meet;first | exact ⟨_,rfl,rfl,(hK.call (RN.bel hX)).box2 _ _ _⟩ | exact ⟨_,rfl,rfl,KSt.set2 hK (RN.bel hX) c0 c1 _ _⟩)
   case rest =>
   obtain ⟨z,rfl,rfl,h1⟩:=hcut
   obtain ⟨WS,rfl⟩:∃W,W=wc:=⟨_,rfl⟩
   replace h:=h.call h1.bw
   replace HOB:=Lib.hid (HOB.out.keep h1.bw)
   replace HFV:=Lib.hid (HFV.out.keep h1.bw)
   have p0:=qb _ h1.bw p0
   have p1:=qb _ h1.bw p1
   have t1:=qb _ h1.bw t1
   have t2:=qb _ h1.bw t2
   clear q0 q1 q2 q3 q4 hS hK l1 l2 l3 hlo
   obtain ⟨⟨q0,q1,q2,q3,q4⟩,_⟩:=h.c5
   obtain ⟨⟨z0,z1⟩,_⟩:=h1.c2
   have hfa:=fun W=>fair_yes HF1.out HF2.out W
   have hk2:=HF2.out
   unfold okS at hk2
   obtain ⟨k1,k2,k3,k4⟩:=hk2
   simp only [fv] at hfa
   simp only at k1 k2 k3 k4
   have hq0:=Int.ediv_nonneg (show 0≤1000 * r1 by omega) (show 0≤r2 by omega)
   have hq1:=Int.ediv_le_self r2 (show 0≤1000 * r1 by omega)
   have hrb:(r2 == 0)=false:=by rw [beq_eq_false_iff_ne];omega
   have hbig:¬ (35184372088832:Int) < r1:=by omega
   clear h1
   go_upto_region 16 with (go_at_call 13;(with_reducible refine (hfa _).mono ?_);rintro e w4 ⟨rfl,hB⟩;replace h:=h.call hB;replace HOB:=Lib.hid (HOB.out.keep hB);replace HFV:=Lib.hid (HFV.out.keep hB);have p0:=qb _ hB p0;have p1:=qb _ hB p1;have t2:=qb _ hB t2;have z0:=qb _ hB z0;have z1:=qb _ hB z1;clear q0 q1 q2 q3 q4;clear hB;obtain ⟨⟨q0,q1,q2,q3,q4⟩,_⟩:=h.c5)
   go_upto_region 17 with fail
   obtain ⟨WT,rfl⟩:∃W,W=w4:=⟨_,rfl⟩
   clear hfa z0 z1 HF1 HF2 t1
   go_upto_region 18 with fail
   have hnb:=(KSt.box2 (w:=WT) (W:=WT) (l:=[]) ⟨fun p hp=>absurd hp (by simp),h.gl,Below.refl _ _⟩ (.int .i64 t) (.int .i64 d) 23)
   obtain ⟨⟨y0,y1⟩,_⟩:=hnb.c2
   replace h:=h.call hnb.bw
   replace HOB:=Lib.hid (HOB.out.keep hnb.bw)
   replace HFV:=Lib.hid (HFV.out.keep hnb.bw)
   generalize WT.alloc (.cells #[.int .i64 t,.int .i64 d] 23)=WU at *
   generalize WT.heap.size=zy at y0 y1 ⊢
   clear hnb p0 p1 t2 q0 q1 q2 q3 q4
   obtain ⟨⟨q0,q1,q2,q3,q4⟩,_⟩:=h.c5
   obtain ⟨⟨u0,u1,u2,u3,u4⟩,_⟩:=id HFV.out
   have hzs:=jb (yL gs k (T:Int)) j
   have hsl:∀i,(zer (yL gs k (T:Int)) i).length≤20∧∀x∈zer (yL gs k (T:Int)) i,x.traffic.length≤20∧x.name.size≤100:=fun i=>⟨by rw [jb];exact HSL.out.1,fun x hx=>by
    obtain ⟨i',hi',rfl⟩:=List.getElem_of_mem hx
    obtain ⟨y,hy,e1,e2,_⟩:=Xw (List.getElem?_eq_getElem hi')
    rw [e1,e2]
    exact HSL.out.2 y (List.mem_of_getElem? hy)⟩
   have hzc:=fun i=>Xv (B:=⟨lim,gr,hr,yL gs k (T:Int),some ⟨b,o,none⟩,gc⟩) HC1.out i
   have HSZ:=Lib.hid hsl
   have HZC:=Lib.hid hzc
   have el:l.length=gs.length:=by rw [HOB.out.len,jb,qH]
   have hch:=Zu (k:=j) (T:=0) _ (HOB.out.book (B:=⟨lim,gr,hr,gs,some ⟨b,o,none⟩,gc⟩) (hsl j)) h.gl (HOB.out.check (B:=⟨lim,gr,hr,gs,some ⟨b,o,none⟩,gc⟩) (hzc j)) (by show j < l.length;omega) (by omega)
   simp only [bv,el] at hch
   rw [show ((0:Nat):Int)=0 from rfl] at hch
   clear hsl hzc
   go_upto_region 19 with (go_at_call 11;(with_reducible refine hch.mono ?_);rintro e w5 ⟨⟨g2,gc2,l2,tb2,rfl,hSm,hOw,hcg⟩,hB⟩;have hqs:q < WU.heap.size:=lt_of_cell u0;replace h:=(h.call hB).box5 (.int .i64 lim.1) (.int .i64 lim.2) (.int .i64 gr) (.int .i64 hr) (.slice (some ⟨g2,0,none⟩) gs.length gc2) 26;replace HFV:=Lib.hid ((HFV.out.keep hB).keep ((Below.refl _ w5).alloc (Nat.le_refl _) (.cells #[.int .i64 lim.1,.int .i64 lim.2,.int .i64 gr,.int .i64 hr,.slice (some ⟨g2,0,none⟩) gs.length gc2] 26)));have hO2:=(OB.behind (q:=q) hSm hOw hcg hqs).keep ((Below.refl _ w5).alloc (Nat.le_refl _) (.cells #[.int .i64 lim.1,.int .i64 lim.2,.int .i64 gr,.int .i64 hr,.slice (some ⟨g2,0,none⟩) gs.length gc2] 26));have y0:=qb _ ((Below.refl _ w5).alloc (Nat.le_refl _) (.cells #[.int .i64 lim.1,.int .i64 lim.2,.int .i64 gr,.int .i64 hr,.slice (some ⟨g2,0,none⟩) gs.length gc2] 26)) (qb _ hB y0);have y1:=qb _ ((Below.refl _ w5).alloc (Nat.le_refl _) (.cells #[.int .i64 lim.1,.int .i64 lim.2,.int .i64 gr,.int .i64 hr,.slice (some ⟨g2,0,none⟩) gs.length gc2] 26)) (qb _ hB y1);clear q0 q1 q2 q3 q4 u0 u1 u2 u3 u4;clear hB;obtain ⟨⟨v0,v1,v2,v3,v4⟩,hq5⟩:=h.c5;obtain ⟨⟨q0,q1,q2,q3,q4⟩,_⟩:=hq5.c5;replace h:=hq5;clear hq5)
   generalize w5.alloc (.cells #[.int .i64 lim.1,.int .i64 lim.2,.int .i64 gr,.int .i64 hr,.slice (some ⟨g2,0,none⟩) gs.length gc2] 26)=WV at *
   generalize w5.heap.size=zp at v0 v1 v2 v3 v4 ⊢
   have hO3:OB WV q (zer (yL gs k (T:Int)) (j+1)) g2 gc2 l2 tb2:=⟨(Zq HOB.out.same (k:=j) (t:=0)).trans hO2.same,hO2.own,hO2.cap,hO2.ng,hO2.nt⟩
   have el2:l2.length=gs.length:=by rw [hO3.len,jb,qH]
   have hbk:=hO3.book (B:=⟨lim,gr,hr,gs,some ⟨b,o,none⟩,gc⟩) (HSZ.out (j+1))
   have hckp:=QA _ WV hbk
   rw [hO3.check (B:=⟨lim,gr,hr,gs,some ⟨b,o,none⟩,gc⟩) (HZC.out (j+1))] at hckp
   simp only [bv,el2] at hckp
   obtain ⟨y,hy⟩:∃y,l2[j]? = some y:=⟨l2[j]'(by omega),List.getElem?_eq_getElem _⟩
   have ezj:∃y',(zer (yL gs k (T:Int)) (j+1))[j]? = some y'∧y.traffic=y'.traffic:=by
    obtain ⟨y',hy'⟩:∃y',(zer (yL gs k (T:Int)) (j+1))[j]? = some y':=⟨_,List.getElem?_eq_getElem (by rw [jb,qH];exact hlt2)⟩
    exact ⟨y',hy',(hO3.same.2 j y' y hy' hy).2.2⟩
   have ety:y.traffic=gj.traffic:=by
    obtain ⟨y',hy',e⟩:=ezj
    obtain ⟨y2,hy2,_,e2,_⟩:=Xw hy'
    obtain ⟨y3,hy3,h3⟩:=xm hy2
    have hgj:=HGJ.out
    rw [hgj] at hy3
    cases hy3
    rw [e,e2]
    rcases h3 with ⟨rfl,_⟩ | ⟨_,rfl⟩ <;> rfl
   obtain ⟨pb,po,ep,hpc⟩:=hbk.row (by show 1≤l2.length;omega)
   simp only [Option.some.injEq,Addr.mk.injEq] at ep
   obtain ⟨rfl,rfl,_⟩:=ep
   obtain ⟨_,_,s2⟩:=hpc j y hy
   obtain ⟨yb,yq,eyt,hpy⟩:=hbk.traf y (List.mem_of_getElem? hy) (by rw [ety];omega)
   obtain ⟨r0,r1'⟩:=hpy hN _ (by rw [ety];exact HX.out)
   rw [eyt,ety,Nat.zero_add] at s2
   simp only at r0 r1'
   have hRT:RT WV ⟨zp,0,none⟩ ⟨zp,1,none⟩ ⟨zp,2,none⟩ ⟨zp,3,none⟩ ⟨zp,4,none⟩ ⟨wz,3,none⟩ ⟨wz,4,none⟩ ⟨g2,j * 3+2,none⟩ ⟨yb,yq+hN * 2,none⟩ ⟨yb,yq+hN * 2+1,none⟩ ⟨zy,0,none⟩ ⟨zy,1,none⟩ (.int .i64 lim.1) (.int .i64 lim.2) (.int .i64 gr) (.int .i64 hr) (.slice (some ⟨g2,0,none⟩) gs.length gc2) (.int .i64 hr) (.slice (some ⟨b,o,none⟩) gs.length gc) (.slice (some ⟨yb,yq,none⟩) gj.traffic.length y.tc) (.int .i64 t) (.int .i64 d) (.int .i64 t) (.int .i64 d) WV:=⟨v0,v1,v2,v3,v4,q3,q4,s2,r0,r1',y0,y1,Below.refl _ _⟩
   have HO3:=Lib.hid hO3
   have HCP:=Lib.hid (fun X (hX:Below WV.heap.size WV X)=>(show Calls qg 14 _ X _ from (by
    have k:=QA _ X (hbk.keep hX)
    rw [hO3.check (B:=⟨lim,gr,hr,gs,some ⟨b,o,none⟩,gc⟩) (HZC.out (j+1))] at k
    simp only [bv,el2] at k
    exact k)))
   clear hO3 hO2 hckp hbk hpc hpy s2 r0 r1' y0 y1 hy ezj ety eyt hSm hOw hch
   go_cut [185] from 150 to 185 (fun s wx=>s=.bool false∧Below WV.heap.size WV wx)
   case first =>
    as_aux_lemma =>
     clear v0 v1 v2 v3 v4 q0 q1 q2 q3 q4 h HOB
     go_region_held3 (RT WV ⟨zp,0,none⟩ ⟨zp,1,none⟩ ⟨zp,2,none⟩ ⟨zp,3,none⟩ ⟨zp,4,none⟩ ⟨wz,3,none⟩ ⟨wz,4,none⟩ ⟨g2,j * 3+2,none⟩ ⟨yb,yq+hN * 2,none⟩ ⟨yb,yq+hN * 2+1,none⟩ ⟨zy,0,none⟩ ⟨zy,1,none⟩ (.int .i64 lim.1) (.int .i64 lim.2) (.int .i64 gr) (.int .i64 hr) (.slice (some ⟨g2,0,none⟩) gs.length gc2) (.int .i64 hr) (.slice (some ⟨b,o,none⟩) gs.length gc) (.slice (some ⟨yb,yq,none⟩) gj.traffic.length y.tc) (.int .i64 t) (.int .i64 d) (.int .i64 t) (.int .i64 d)) (first | with_reducible exact RT.call hRT (Below.refl _ _).drew | with_reducible exact hX | (refine RT.call ?_ hB;with_reducible assumption)) (first | (go_at_call 14;have hS1:RT WV ⟨zp,0,none⟩ ⟨zp,1,none⟩ ⟨zp,2,none⟩ ⟨zp,3,none⟩ ⟨zp,4,none⟩ ⟨wz,3,none⟩ ⟨wz,4,none⟩ ⟨g2,j * 3+2,none⟩ ⟨yb,yq+hN * 2,none⟩ ⟨yb,yq+hN * 2+1,none⟩ ⟨zy,0,none⟩ ⟨zy,1,none⟩ (.int .i64 lim.1) (.int .i64 lim.2) (.int .i64 gr) (.int .i64 hr) (.slice (some ⟨g2,0,none⟩) gs.length gc2) (.int .i64 hr) (.slice (some ⟨b,o,none⟩) gs.length gc) (.slice (some ⟨yb,yq,none⟩) gj.traffic.length y.tc) (.int .i64 t) (.int .i64 d) (.int .i64 t) (.int .i64 d) _:=(by with_reducible assumption);(with_reducible refine (HCP.out _ hS1.bel).mono ?_);rintro e wy ⟨rfl,hB⟩;have hX:=RT.call hS1 hB))
     all_goals (rename_i hH;go_wp2_with fail;go_meet;exact ⟨rfl,RT.bel hH⟩)
   case rest =>
   obtain ⟨rfl,hB⟩:=hcut
   obtain ⟨WX,rfl⟩:∃W,W=wc:=⟨_,rfl⟩
   replace h:=h.call hB
   replace HO3:=Lib.hid (HO3.out.keep hB)
   replace HFV:=Lib.hid (HFV.out.keep hB)
   have v0:=qb _ hB v0
   have v1:=qb _ hB v1
   have v2:=qb _ hB v2
   have v3:=qb _ hB v3
   have v4:=qb _ hB v4
   clear q0 q1 q2 q3 q4 hRT HCP hB
   obtain ⟨⟨u0,u1,u2,u3,u4⟩,⟨f0,f1,f2,f3,f4⟩⟩:=id HFV.out
   go_wp2
   go_roundw
   case rel=>exact ⟨j+1,rfl,by omega,by rw [HSN.out],g2,gc2,l2,tb2,HO3.out.set5,HFV.out.put _ _ _ _ _,h.put5 HG.out hqw (fun p hp=>by
    simp only [List.mem_cons,List.not_mem_nil,or_false] at hp
    rcases hp with rfl | rfl | rfl | rfl | rfl <;> exact hqz)⟩
   case measure=>simp [intOf];omega
  ·obtain rfl:j=gs.length:=by omega
   clear hsj0 hsj1
   go_upto_region 22 with fail
   go_wp2
   go_loopw [23,24] (fun s i wx=>∃i':Nat,i=.int .i64 i'∧i'≤gs.length∧s=.int .i64 (Zk ⟨lim,gr,hr,gs,some ⟨b,o,none⟩,gc⟩ hN i')∧Below WR.heap.size WR wx) (fun _ i _=>gs.length - (intOf i).toNat)
   case atStart=>exact ⟨0,rfl,Nat.zero_le _,by rw [hn00],.refl _ _⟩
   case round =>
    obtain ⟨i,rfl,hi,rfl,hBr⟩:=hrel
    obtain ⟨hni0,hni1⟩:=HNM.out i hi
    have q3':=qb _ hBr q3
    have q4':=qb _ hBr q4
    by_cases hlt2:i < gs.length
    ·obtain ⟨gj,hgj⟩:∃gj,gs[i]? = some gj:=⟨gs[i]'(by omega),List.getElem?_eq_getElem _⟩
     have hmj:=List.mem_of_getElem? hgj
     obtain ⟨t,d,m,hx,ht12,hd4,_,_,_⟩:=HGH.out gj hmj
     have htl:=(List.getElem?_eq_some_iff.1 hx).1
     obtain ⟨xb,xq,etx,hpx⟩:=HTR.out gj hmj (by omega)
     obtain ⟨p0,p1⟩:=hpx hN _ hx
     obtain ⟨_,_,t2⟩:=HC.out i gj hgj
     rw [etx] at t2
     replace p0:=qb _ hBr (qb _ h.bw p0)
     replace p1:=qb _ hBr (qb _ h.bw p1)
     replace t2:=qb _ hBr (qb _ h.bw t2)
     simp only at p0 p1
     have hnn:=HNS.out i gj hgj
     rw [show gj.traffic.getD hN (0,1)=((t:Int),(d:Int)) by rw [List.getD_eq_getElem?_getD,hx];rfl] at hnn
     unfold XJ at hnn
     simp only at hnn
     generalize Zk ⟨lim,gr,hr,gs,some ⟨b,o,none⟩,gc⟩ hN i=s at *
     have ti0:0≤(t:Int):=Int.natCast_nonneg t
     have ti1:(t:Int)≤12:=by omega
     have di0:1≤(d:Int):=by omega
     clear hx hgj hmj etx hpx ht12 hd4
     generalize (t:Int)=ti at *
     generalize (d:Int)=di at *
     have HNN2:=Lib.hid hnn
     have hq0:=Int.ediv_nonneg (show 0≤1000 * ti by omega) (show 0≤di by omega)
     have hq1:=Int.ediv_le_self di (show 0≤1000 * ti by omega)
     have hrb:(di == 0)=false:=by rw [beq_eq_false_iff_ne];omega
     have hr0:¬ di=0:=by omega
     have htd:(1000 * ti).tdiv di=1000 * ti / di:=Int.tdiv_eq_ediv_of_nonneg (by omega)
     have wt:IntKind.i64.wrap (1000 * ti)=1000 * ti:=by rw [IntKind.wrap_i64];omega
     have wq:IntKind.i64.wrap (1000 * ti / di)=1000 * ti / di:=by rw [IntKind.wrap_i64];omega
     have j1:(i:Int) < (gs.length:Int):=by omega
     have j2:(0:Int)≤(i:Int):=Int.natCast_nonneg i
     have j3:(hN:Int) < (gj.traffic.length:Int):=by omega
     have j4:(0:Int)≤(hN:Int):=Int.natCast_nonneg hN
     have hS:RN wr ⟨wz,3,none⟩ ⟨wz,4,none⟩ ⟨wz,4,none⟩ ⟨b,o+i * 3+2,none⟩ ⟨xb,xq+hN * 2,none⟩ ⟨xb,xq+hN * 2+1,none⟩ (.int .i64 hr) (.slice (some ⟨b,o,none⟩) gs.length gc) (.slice (some ⟨b,o,none⟩) gs.length gc) (.slice (some ⟨xb,xq,none⟩) gj.traffic.length gj.tc) (.int .i64 ti) (.int .i64 di) wr:=⟨q3',q4',q4',t2,p0,p1,Below.refl _ _⟩
     have wsum:IntKind.i64.wrap (s+1000 * ti / di)=s+1000 * ti / di:=by rw [IntKind.wrap_i64];omega
     have WSUM:=Lib.hid wsum
     clear hnn
     go_upto_region 26 with fail
     clear p0 p1 t2 q3' q4' q0 q1 q2 q3 q4
     go_region_held3 (RN wr ⟨wz,3,none⟩ ⟨wz,4,none⟩ ⟨wz,4,none⟩ ⟨b,o+i * 3+2,none⟩ ⟨xb,xq+hN * 2,none⟩ ⟨xb,xq+hN * 2+1,none⟩ (.int .i64 hr) (.slice (some ⟨b,o,none⟩) gs.length gc) (.slice (some ⟨b,o,none⟩) gs.length gc) (.slice (some ⟨xb,xq,none⟩) gj.traffic.length gj.tc) (.int .i64 ti) (.int .i64 di)) (first | with_reducible exact RN.drew hS) (fail)
     rename_i hH
     have hB:=RN.bel hH
     clear hH hS
     go_wp2
     go_roundw
     case rel=>exact ⟨i+1,rfl,by omega,by first | (rw [HNN2.out];done) | (rw [HNN2.out,WSUM.out];done),bcl hBr hB⟩
     case measure=>simp [intOf];omega
    ·obtain rfl:i=gs.length:=by omega
     have hO2:=hO.keep hBr
     have hF2:=hFv.keep hBr
     replace h:=h.call hBr
     clear q0 q1 q2 q3 q4 q3' q4' hO hFv hBr
     obtain ⟨⟨u0,u1,u2,u3,u4⟩,_⟩:=id hF2
     obtain ⟨⟨q0,q1,q2,q3,q4⟩,_⟩:=h.c5
     have el:l.length=gs.length:=by rw [hO2.len,jb,qH]
     have esl:(yL gs k (T:Int)).length=gs.length:=qH _ _ _
     have hsl:(zer (yL gs k (T:Int)) gs.length).length≤20∧∀x∈zer (yL gs k (T:Int)) gs.length,x.traffic.length≤20∧x.name.size≤100:=⟨by rw [jb];exact HSL.out.1,fun x hx=>by
      obtain ⟨i',hi',rfl⟩:=List.getElem_of_mem hx
      obtain ⟨y,hy,e1,e2,_⟩:=Xw (List.getElem?_eq_getElem hi')
      rw [e1,e2]
      exact HSL.out.2 y (List.mem_of_getElem? hy)⟩
     have hs3:=qbt _ (hO2.book (B:=⟨lim,gr,hr,gs,some ⟨b,o,none⟩,gc⟩) hsl) h.gl (hO2.check (B:=⟨lim,gr,hr,gs,some ⟨b,o,none⟩,gc⟩) (Xv (B:=⟨lim,gr,hr,yL gs k (T:Int),some ⟨b,o,none⟩,gc⟩) HC1.out gs.length)) hlt
     have hz:=HNN.out (yL gs k (T:Int)) l esl (fun j' g' hg'=>by
      obtain ⟨x,hx,h3⟩:=xm hg'
      exact ⟨x,hx,by rcases h3 with ⟨rfl,_⟩ | ⟨_,rfl⟩ <;> rfl⟩) (by rw [esl];exact hO2.same)
     simp only [bv,el] at hs3
     rw [hz] at hs3
     have hsb:=HSG.out
     rw [hsb]
     generalize Zk ⟨lim,gr,hr,gs,some ⟨b,o,none⟩,gc⟩ hN gs.length=NN at *
     clear hz hsl hO2 hF2 hsb hni0 hni1
     go_wp2_with (first | (go_at_call 10;(with_reducible refine hs3.mono ?_);rintro e w8 ⟨rfl,hB⟩;replace h:=h.call hB;clear hB) | (go_at_call 9;(refine (HL _ h.gl).mono ?_);rintro e w9 ⟨rfl,hB9⟩))
     go_ret
     exact ⟨rfl,(h.call hB9).bw⟩
set_option maxHeartbeats 8000000 in
set_option maxRecDepth 100000 in
theorem YB (HL:∀W,Globs W→Calls qg 9 #[] W fun e w'=>e=.returned (.bool true)∧Below W.heap.size W w') (B:Bk) (hour which trunks:Int) (w:World) (hG:Globs w) (hB:BookIn w B) (hc:B.gs.length≤B.gc) (hf:fitB B=false) :
 Calls qg 3 #[bv B,.int .u8 hour,.int .u8 which,.int .u8 trunks] w fun e w'=>e=.returned (.bool true)∧Below w.heap.size w w':=by
 have hfi:=fun W (h:Below w.heap.size w W)=>Jk B W (hB.keep h) hc
 simp only [hf] at hfi
 have HLL:=fun W (h:Below w.heap.size w W)=>HL W (hG.keep h)
 obtain ⟨lim,gr,hr,gs,ga,gc⟩:=B
 simp only [bv] at *
 clear hB hf HL hG
 go_enter s3,ntmps3
 go_wp2_with (first | (go_at_call 8;(with_reducible refine (hfi _ (by go_grown)).mono ?_);rintro e w1 ⟨rfl,hB1⟩;have hB:Below w.heap.size w w1:=Below.call (by go_grown) hB1 (by simp)) | (go_at_call 9;(refine (HLL _ hB).mono ?_);rintro e w2 ⟨rfl,hB2⟩))
 go_ret
 exact ⟨rfl,bcl hB hB2⟩
theorem qai (HL:∀W,Globs W→Calls qg 9 #[] W fun e w'=>e=.returned (.bool true)∧Below W.heap.size W w') (B:Bk) (hour which trunks:Int) (hh:0≤hour∧hour≤255) (hw:0≤which∧which≤255) (ht:0≤trunks∧trunks≤255) (w:World) (hG:Globs w) (hB:BookIn w B) (hc:B.gs.length≤B.gc) :
 Calls qg 3 #[bv B,.int .u8 hour,.int .u8 which,.int .u8 trunks] w fun e w'=>e=.returned (.bool true)∧Below w.heap.size w w':=by
 cases hf:fitB B with
 | false=>exact YB HL B hour which trunks w hG hB hc hf
 | true=>exact Jn HL B hour which trunks hh hw ht w hG hB hc hf
end Go.Proofs.Tryz
end
