/-
  Lemmas about the program and the machine (B28 to B28), upon which the last text of this claim rests; no condition.
-/
import Derived.Deep.RegionWith
import Derived.Deep.CutBlock
import Derived.Test.YtodbbjmchbgpiaaGreatDoorMxSprex01
set_option linter.unusedSimpArgs false
set_option linter.unusedVariables false
section
namespace Go.Proofs.Tryz
open Go Go.Load Go.RowKit
open Go.Proofs.YtodbbjmchbgpiaaGreatDoor (BookIn)
theorem s4:qg.funcs[4]? = some f4:=by kernel_rfl
theorem Best_row {B:Bk} (w:World) (h:BookAt w B) (hG:Globs w) (hc:checkN B=0) {n:Nat} (hn:(n:Int) < B.hours):Calls qg 16 #[bv B,.int .i64 n] w fun e w'=>(∃x:Int×Int,e=.returned (.tuple #[.int .i64 (yz n B.gs),.agg #[.int .i64 x.1,.int .i64 x.2],.int .i64 0]))∧Below w.heap.size w w':=by
 have k:=qcp B (n:Int) w h hG
 unfold qao at k
 rw [if_pos hc,xz hc,show btw (n:Int) 0 (B.hours - 1)=true from yA.2 ⟨by omega,by omega⟩,if_pos rfl,Int.toNat_natCast,Jr] at k
 exact k.mono fun e w' q=>⟨⟨_,q.1⟩,q.2⟩
theorem qdp (h:Nat) {l l':List Grp} (hs:qZ l l'):yz h l'=yz h l:=by rw [← QO h l',QB hs,QO]
theorem qdm {B:Bk} (w:World) (h:BookAt w B) (hG:Globs w) (hc:checkN B=0) {n N:Nat} (hn:(n:Int) < B.hours) (hN:N≤6):Calls qg 15 #[bv B,.int .i64 n,.int .i64 N] w fun e w'=>(∃a c lb,e=.returned (.tuple #[.slice a N c,.int .i64 0])∧(1≤N→a=some ⟨lb,0,none⟩)∧∀i,i < N→w'.cell? ⟨lb,i,none⟩=some (.int .i64 (yz n (QY n B.gs i))))∧Below w.heap.size w w' :=
 (XL B (n:Int) (N:Int) w h hG).mono fun e w' q=>⟨by
   have k:=q.1
   unfold jY at k
   rw [if_pos hc,xz hc,if_pos (yA.2 ⟨by omega,by omega⟩),if_pos (yA.2 ⟨by omega,by omega⟩),Int.toNat_natCast,Int.toNat_natCast] at k
   obtain ⟨v,rfl,hS⟩:=k
   have hl:=fill_len N _ (QL n N B.gs)
   obtain ⟨a,c,e,hb⟩:=xg hS
   rw [hl] at e hb
   subst e
   by_cases h1:1≤N
   ·obtain ⟨lb,ha,hx⟩:=hb h1
    exact ⟨a,c,lb,rfl,fun _=>ha,fun i hi=>hx i _ (qcK n N B.gs i hi)⟩
   ·exact ⟨a,c,0,rfl,fun e=>absurd e h1,fun i hi=>absurd hi (by omega)⟩,q.2⟩
theorem qaZ {B:Bk} (w:World) (hb:BookAt w B) (hG:Globs w) (hc:checkN B=0) {i h:Nat} {g:Grp} (hg:B.gs[i]? = some g) (hh:(h:Int) < B.hours) (h7:g.trunks≠7):Calls qg 18 #[bv B,.int .i64 i,.int .i64 h] w fun e w'=>e=.returned (.tuple #[fv (qp g h),.bool true])∧Below w.heap.size w w':=by
 have k:=XT B i h g hg (qy hc) hh w hb hG
 unfold JJ at k
 rw [if_neg h7] at k
 exact k
theorem qdY {B:Bk} (w:World) (hb:BookAt w B) (hG:Globs w) (hc:checkN B=0) {i h:Nat} {g:Grp} (hg:B.gs[i]? = some g) (hh:(h:Int) < B.hours) (h7:g.trunks=7):Calls qg 18 #[bv B,.int .i64 i,.int .i64 h] w fun e w'=>e=.returned (.tuple #[fv (0,1),.bool false])∧Below w.heap.size w w':=by
 have k:=XT B i h g hg (qy hc) hh w hb hG
 unfold JJ at k
 rw [if_pos h7] at k
 exact k
set_option maxHeartbeats 8000000 in
set_option maxRecDepth 100000 in
theorem Xx (HL:∀W,Globs W→Calls qg 9 #[] W fun e w'=>e=.returned (.bool true)∧Below W.heap.size W w') (B:Bk) (hour many one two:Int) (hh:0≤hour∧hour≤255) (hm:0≤many∧many≤255) (ho:0≤one∧one≤255) (ht:0≤two∧two≤255) (w:World) (hG:Globs w) (hB:BookIn w B) (hc:B.gs.length≤B.gc) (hf:fitB B=true) :
 Calls qg 4 #[bv B,.int .u8 hour,.int .u8 many,.int .u8 one,.int .u8 two] w fun e w'=>e=.returned (.bool true)∧Below w.heap.size w w':=by
 have hfi:=fun W (h:Below w.heap.size w W)=>Jk B W (hB.keep h) hc
 obtain ⟨hmo,hck,hV⟩:=qeZ hf
 simp only [hf] at hfi
 have hat:=hB.at (ZK hmo) hc
 have hl1:=hV.len1
 have hl4:=hV.len4
 have hr1:=hV.num.2.2
 have ww1:IntKind.i64.wrap hour=hour:=by rw [IntKind.wrap_i64];omega
 have ww2:IntKind.i64.wrap many=many:=by rw [IntKind.wrap_i64];omega
 have ww3:IntKind.i64.wrap one=one:=by rw [IntKind.wrap_i64];omega
 have ww4:IntKind.i64.wrap two=two:=by rw [IntKind.wrap_i64];omega
 obtain ⟨hN,eh,hlt⟩:∃hN:Nat,hour.tmod B.hours=hN∧(hN:Int) < B.hours:=by
  have h1:=Int.emod_nonneg hour (show B.hours≠0 by omega)
  have h2:=Int.emod_lt_of_pos hour (show 0 < B.hours by omega)
  have e:hour.tmod B.hours=hour % B.hours:=Int.tmod_eq_emod_of_nonneg hh.1
  exact ⟨(hour % B.hours).toNat,by omega,by omega⟩
 obtain ⟨N,eN,hN6⟩:∃N:Nat,many.tmod 7=N∧N≤6:=by
  have e:many.tmod 7=many % 7:=Int.tmod_eq_emod_of_nonneg hm.1
  exact ⟨(many % 7).toNat,by omega,by omega⟩
 have idx:∀x:Int,0≤x→∃k:Nat,x.tmod (B.gs.length:Int)=k∧k < B.gs.length:=fun x hx=>by
  have h1:=Int.emod_nonneg x (show (B.gs.length:Int)≠0 by omega)
  have h2:=Int.emod_lt_of_pos x (show 0 < (B.gs.length:Int) by omega)
  have e:x.tmod (B.gs.length:Int)=x % (B.gs.length:Int):=Int.tmod_eq_emod_of_nonneg hx
  exact ⟨(x % (B.gs.length:Int)).toNat,by omega,by omega⟩
 obtain ⟨I,eI,hIl⟩:=idx one ho.1
 obtain ⟨K,eK,hKl⟩:=idx two ht.1
 have n1:¬ B.hours=0:=by omega
 have n2:¬ (B.gs.length:Int)=0:=by omega
 have hs1:=fun W (h:Below w.heap.size w W)=>qdm (n:=hN) (N:=N) W (hat.keep h) (hG.keep h) hck hlt hN6
 have hrow:=hB.row hl1
 have HSP:=Lib.hid (fun j=>SprI.all hck hlt j)
 have HAT:=Lib.hid hat
 have HCK:=Lib.hid hck
 have HV:=Lib.hid hV
 have HG:=Lib.hid hG
 clear hat hf hmo hc hB hV hck idx
 obtain ⟨b,o,hga,hcs⟩:=hrow
 have HC:=Lib.hid hcs
 clear hcs
 obtain ⟨lim,gr,hr,gs,ga,gc⟩:=B
 simp only [bv] at *
 subst hga
 go_enter s4,ntmps4
 go_upto_region 3 with (go_at_call 8;(with_reducible refine (hfi _ (by go_grown)).mono ?_);rintro e w1 ⟨rfl,hB1⟩;(first | (replace hB:=bcl (by with_reducible assumption) hB1) | (replace hB:=bcl (by go_grown) hB1) | (have hB:=hB1));(try clear hc hg hz);obtain ⟨hc,hg⟩:=qC hB;have hz:=hB.size;clear hB1;(try simp at hz);(try have hlt0:w.heap.size < w1.heap.size:=by omega))
 obtain ⟨wz,hwz⟩:∃wz,wz=w.heap.size:=⟨_,rfl⟩
 have h:KSt w w1 [(⟨wz,0,none⟩,.int .i64 lim.1),(⟨wz,1,none⟩,.int .i64 lim.2),(⟨wz,2,none⟩,.int .i64 gr),(⟨wz,3,none⟩,.int .i64 hr),(⟨wz,4,none⟩,.slice (some ⟨b,o,none⟩) gs.length gc)]:=by
  have hBW:Below w.heap.size w w1:=bcl (w:=w) (by go_grown) hB
  refine ⟨fun p hp=>?_,HG.out.keep hBW,hBW⟩
  simp only [List.mem_cons,List.not_mem_nil,or_false] at hp
  rcases hp with rfl | rfl | rfl | rfl | rfl <;> (rw [hwz];go_cell)
 obtain ⟨⟨q0,q1,q2,q3,q4⟩,_⟩:=h.c5
 have qz:=lt_of_cell q0
 rw [← hwz]
 clear hc hg hB hz hwz hfi
 go_upto_region 7 with (go_at_call 15;(with_reducible refine (hs1 _ h.bw).mono ?_);rintro e w2 ⟨⟨sa,sc,lb,rfl,hsa,hsx⟩,hB⟩;replace h:=h.call hB;clear q0 q1 q2 q3 q4 qz;clear hB;obtain ⟨⟨q0,q1,q2,q3,q4⟩,_⟩:=h.c5;have qz:=lt_of_cell q0)
 clear hs1
 have HSX:=Lib.hid hsx
 have HSA:=Lib.hid hsa
 clear hsx hsa
 go_upto_region 8 with fail
 have hlbq:∀i,i < N→lb≠w2.heap.size:=fun i hi=>Nat.ne_of_lt (lt_of_cell (HSX.out i hi))
 obtain ⟨WH,hWH⟩:∃W,w2.alloc (.cells #[.int .i64 lim.1,.int .i64 lim.2,.int .i64 gr,.int .i64 hr,.slice (some ⟨b,o,none⟩) gs.length gc] 26)=W:=⟨_,rfl⟩
 have hBa:Below w2.heap.size w2 WH:=by rw [← hWH];exact (Below.refl _ _).alloc (Nat.le_refl _) _
 have hFv:Five WH w2.heap.size (.int .i64 lim.1) (.int .i64 lim.2) (.int .i64 gr) (.int .i64 hr) (.slice (some ⟨b,o,none⟩) gs.length gc):=by rw [← hWH];exact Five.new _ _ _ _ _ _ _
 replace HSX:=Lib.hid fun i hi=>qb _ hBa (HSX.out i hi)
 have hqw:w.heap.size≤w2.heap.size:=h.bw.size
 have hqz:wz≠w2.heap.size:=Nat.ne_of_lt qz
 replace h:=h.call hBa
 rw [hWH]
 generalize w2.heap.size=q at *
 have HLQ:=Lib.hid hlbq
 have HFV:=Lib.hid hFv
 clear q0 q1 q2 q3 q4 qz hWH hBa hlbq hFv
 have ww5:IntKind.i64.wrap ((gs.length:Int) - 1)=(gs.length:Int) - 1:=by rw [IntKind.wrap_i64];omega
 go_wp2
 go_loopw [16] (fun i wr=>∃j:Nat,i=.int .i64 j∧j≤N∧(∀i,i < N→wr.cell? ⟨lb,i,none⟩=some (.int .i64 (yz hN (QY hN gs i))))∧∃ga' gc' l,qZ (QY hN gs j) l∧BookAt wr ⟨lim,gr,hr,l,ga',gc'⟩∧Five wr q (.int .i64 lim.1) (.int .i64 lim.2) (.int .i64 gr) (.int .i64 hr) (.slice ga' gs.length gc')∧KSt w wr [(⟨wz,0,none⟩,.int .i64 lim.1),(⟨wz,1,none⟩,.int .i64 lim.2),(⟨wz,2,none⟩,.int .i64 gr),(⟨wz,3,none⟩,.int .i64 hr),(⟨wz,4,none⟩,.slice (some ⟨b,o,none⟩) gs.length gc)]) (fun i _=>N - (intOf i).toNat)
 case atStart=>exact ⟨0,rfl,Nat.zero_le _,HSX.out,some ⟨b,o,none⟩,gc,gs,.refl _,HAT.out.keep h.bw,HFV.out,h⟩
 case round =>
  clear HSX HFV h
  obtain ⟨j,rfl,hj,hx,ga',gc',l,hs,hbk,hFv,h⟩:=hrel
  have HSJ:=Lib.hid hs
  have HBK:=Lib.hid hbk
  have HFV:=Lib.hid hFv
  have HX:=Lib.hid hx
  have el:l.length=gs.length:=hs.1.trans (HSP.out j).len
  have hchk:checkN ⟨lim,gr,hr,l,ga',gc'⟩=0:=(xD (B:=⟨lim,gr,hr,QY hN gs j,some ⟨b,o,none⟩,gc⟩) hs ga' gc').trans (HSP.out j).chk
  have HCK2:=Lib.hid hchk
  obtain ⟨⟨q0,q1,q2,q3,q4⟩,_⟩:=h.c5
  obtain ⟨⟨u0,u1,u2,u3,u4⟩,_⟩:=id hFv
  clear hs hFv hbk hx hchk
  by_cases hlt2:j < N
  ·have ea:=HSA.out (by omega)
   subst ea
   have d0:=HX.out j hlt2
   have hbe:=Best_row _ HBK.out h.gl HCK2.out hlt
   simp only [bv,el] at hbe
   rw [qdp hN HSJ.out] at hbe
   have j1:(j:Int) < (N:Int):=by omega
   have j2:(0:Int)≤(j:Int):=Int.natCast_nonneg j
   have hbc:=qap (B:=⟨lim,gr,hr,QY hN gs j,some ⟨b,o,none⟩,gc⟩) (HSP.out j).valid hlt
   have esp:QY hN gs (j+1)=xC (QY hN gs j) (yz hN (QY hN gs j)):=rfl
   have HSPN:=Lib.hid esp
   simp only at hbc
   generalize yz hN (QY hN gs j)=KB at *
   clear esp
   rcases hbc with ⟨rfl,_⟩ | ⟨m,y,rfl,hy,h7,_⟩
   ·clear u0 u1 u2 u3 u4
    obtain ⟨⟨u0,u1,u2,u3,u4⟩,_⟩:=id HFV.out
    have hin:=fun W=>yY (-1) (-1) ((gs.length:Int) - 1) W ⟨by omega,by omega⟩
    go_wp2_with (first | (go_at_call 16;(with_reducible refine hbe.mono ?_);rintro e w3 ⟨⟨⟨x1,x2⟩,rfl⟩,hB⟩;simp only;have hBB:Below wr.heap.size wr (w3.alloc (.cells #[.int .i64 x1,.int .i64 x2] 23)):=hB.alloc hB.size _;have d0:=qb _ hBB d0;replace h:=h.call hBB;clear q0 q1 q2 q3 q4;clear hB;obtain ⟨⟨q0,q1,q2,q3,q4⟩,_⟩:=h.c5) | (go_at_call 17;(with_reducible refine (hin _).mono ?_);rintro e w1 ⟨rfl,rfl⟩))
    go_roundw
    case rel=>exact ⟨j+1,rfl,by omega,fun i hi=>qb _ hBB (HX.out i hi),ga',gc',l,by rw [HSPN.out];exact HSJ.out,HBK.out.keep hBB,HFV.out.keep hBB,h⟩
    case measure=>simp [intOf];omega
   ·have hml:m < gs.length:=by have:=(List.getElem?_eq_some_iff.1 hy).1;rwa [(HSP.out j).len] at this
    obtain ⟨_,_,n,_,_,_,hn,hn7,_⟩:=jG (B:=⟨lim,gr,hr,QY hN gs j,some ⟨b,o,none⟩,gc⟩) (HSP.out j).valid hlt (List.mem_of_getElem? hy)
    have hin:=fun W=>yY (m:Int) (-1) ((gs.length:Int) - 1) W ⟨by omega,by omega⟩
    have m0:(0:Int)≤(m:Int):=Int.natCast_nonneg m
    have m1:(m:Int) < (gs.length:Int):=by omega
    have wn:IntKind.i64.wrap ((n:Int)+1)=(n:Int)+1:=by rw [IntKind.wrap_i64];omega
    have hn6:n+1≤7:=by rw [hn] at h7;omega
    have HY:=Lib.hid hy
    have HN:=Lib.hid hn
    clear hy h7 hn
    go_upto_region 15 with (first | (go_at_call 16;(with_reducible refine hbe.mono ?_);rintro e w3 ⟨⟨⟨x1,x2⟩,rfl⟩,hB⟩;simp only;have hBB:Below wr.heap.size wr (w3.alloc (.cells #[.int .i64 x1,.int .i64 x2] 23)):=hB.alloc hB.size _;have d0:=qb _ hBB d0;replace h:=h.call hBB;clear q0 q1 q2 q3 q4;clear hB;obtain ⟨⟨q0,q1,q2,q3,q4⟩,_⟩:=h.c5) | (go_at_call 17;(with_reducible refine (hin _).mono ?_);rintro e w1 ⟨rfl,rfl⟩))
    obtain ⟨WF,hWF⟩:∃W,w3.alloc (.cells #[.int .i64 x1,.int .i64 x2] 23)=W:=⟨_,rfl⟩
    rw [hWF] at h hBB ⊢
    replace HX:=Lib.hid fun i hi=>qb _ hBB (HX.out i hi)
    replace HBK:=Lib.hid (HBK.out.keep hBB)
    replace HFV:=Lib.hid (HFV.out.keep hBB)
    clear q0 q1 q2 q3 q4 u0 u1 u2 u3 u4 d0 hWF hBB hbe hin
    obtain ⟨⟨q0,q1,q2,q3,q4⟩,_⟩:=h.c5
    obtain ⟨⟨u0,u1,u2,u3,u4⟩,_⟩:=id HFV.out
    obtain ⟨y',hy'⟩:∃y',l[m]? = some y':=⟨l[m]'(by omega),List.getElem?_eq_getElem _⟩
    have hyt:y'.trunks=(n:Int):=(HSJ.out.2 m y y' HY.out hy').2.1.trans HN.out
    obtain ⟨rb,ro,er,hrc⟩:=HBK.out.row (by show 1≤l.length;omega)
    simp only at er
    subst er
    have t1:=(hrc m y' hy').2.1
    rw [hyt] at t1
    have hS:RN WF ⟨q,0,none⟩ ⟨q,1,none⟩ ⟨q,2,none⟩ ⟨q,3,none⟩ ⟨q,4,none⟩ ⟨rb,ro+m * 3+1,none⟩ (.int .i64 lim.1) (.int .i64 lim.2) (.int .i64 gr) (.int .i64 hr) (.slice (some ⟨rb,ro,none⟩) gs.length gc') (.int .i64 n) WF:=⟨u0,u1,u2,u3,u4,t1,Below.refl _ _⟩
    have qq:q < WF.heap.size:=lt_of_cell u0
    have nbl:rb < WF.heap.size:=lt_of_cell t1
    have hch:=fun W (hB:Below WF.heap.size WF W)=>Zu (k:=m) (T:=n+1) W (HBK.out.keep hB) (h.gl.keep hB) HCK2.out (by show m < l.length;omega) hn6
    simp only [bv,el] at hch
    simp only [show ((n+1:Nat):Int)=(n:Int)+1 from rfl] at hch
    have HCH:=Lib.hid hch
    clear hch hrc hy' hyt
    go_cut [20,21] from 90 to 101 (fun p al wx=>al=.int .i64 0∧∃zp g2 gc2 l2 tb2,p=.pointer (some ⟨zp,0,none⟩)∧WF.heap.size≤zp∧Five wx zp (.int .i64 lim.1) (.int .i64 lim.2) (.int .i64 gr) (.int .i64 hr) (.slice (some ⟨g2,0,none⟩) gs.length gc2)∧OB wx q (yL l m ((n:Int)+1)) g2 gc2 l2 tb2∧Below WF.heap.size WF wx)
    case first =>
     as_aux_lemma =>
      have zz0:=Lib.hid (zA (qm WF #[.int .i64 0,.int .i64 0,.int .i64 0,.int .i64 0,.slice none 0 0] 26 0 (by simp)))
      have yy0:=Lib.hid (zm (qD WF #[.int .i64 0,.int .i64 0,.int .i64 0,.int .i64 0,.slice none 0 0] 26 0 (by simp)))
      have zz1:=Lib.hid (zA (qm WF #[.int .i64 0,.int .i64 0,.int .i64 0,.int .i64 0,.slice none 0 0] 26 1 (by simp)))
      have yy1:=Lib.hid (zm (qD WF #[.int .i64 0,.int .i64 0,.int .i64 0,.int .i64 0,.slice none 0 0] 26 1 (by simp)))
      have zz2:=Lib.hid (zA (qm WF #[.int .i64 0,.int .i64 0,.int .i64 0,.int .i64 0,.slice none 0 0] 26 2 (by simp)))
      have yy2:=Lib.hid (zm (qD WF #[.int .i64 0,.int .i64 0,.int .i64 0,.int .i64 0,.slice none 0 0] 26 2 (by simp)))
      have zz3:=Lib.hid (zA (qm WF #[.int .i64 0,.int .i64 0,.int .i64 0,.int .i64 0,.slice none 0 0] 26 3 (by simp)))
      have yy3:=Lib.hid (zm (qD WF #[.int .i64 0,.int .i64 0,.int .i64 0,.int .i64 0,.slice none 0 0] 26 3 (by simp)))
      have zz4:=Lib.hid (zA (qm WF #[.int .i64 0,.int .i64 0,.int .i64 0,.int .i64 0,.slice none 0 0] 26 4 (by simp)))
      have yy4:=Lib.hid (zm (qD WF #[.int .i64 0,.int .i64 0,.int .i64 0,.int .i64 0,.slice none 0 0] 26 4 (by simp)))
      clear q0 q1 q2 q3 q4 u0 u1 u2 u3 u4 t1 h
      go_region_held3 (RN WF ⟨q,0,none⟩ ⟨q,1,none⟩ ⟨q,2,none⟩ ⟨q,3,none⟩ ⟨q,4,none⟩ ⟨rb,ro+m * 3+1,none⟩ (.int .i64 lim.1) (.int .i64 lim.2) (.int .i64 gr) (.int .i64 hr) (.slice (some ⟨rb,ro,none⟩) gs.length gc') (.int .i64 n)) (first | with_reducible exact RN.drew hS | with_reducible exact hX | with_reducible exact RN.alloc hX _ | with_reducible exact (RN.alloc hS _).drew | with_reducible exact RN.set5 hX (Nat.le_refl _) qq qq qq qq qq nbl _ _ _ _ _) (first | (go_at_call 11;have hS1:RN WF ⟨q,0,none⟩ ⟨q,1,none⟩ ⟨q,2,none⟩ ⟨q,3,none⟩ ⟨q,4,none⟩ ⟨rb,ro+m * 3+1,none⟩ (.int .i64 lim.1) (.int .i64 lim.2) (.int .i64 gr) (.int .i64 hr) (.slice (some ⟨rb,ro,none⟩) gs.length gc') (.int .i64 n) _:=(by with_reducible assumption);(with_reducible refine (HCH.out _ hS1.bel).mono ?_);rintro e wy ⟨⟨g',gc2,l2,tb,rfl,hSm,hOw,hcg⟩,hB⟩;have hX:=RN.call hS1 hB;(try with_reducible (have z0:=qb _ hB zz0.out;have y0:=qd _ hB zz0.out yy0.out;have z1:=qb _ hB zz1.out;have y1:=qd _ hB zz1.out yy1.out;have z2:=qb _ hB zz2.out;have y2:=qd _ hB zz2.out yy2.out;have z3:=qb _ hB zz3.out;have y3:=qd _ hB zz3.out yy3.out;have z4:=qb _ hB zz4.out;have y4:=qd _ hB zz4.out yy4.out))))
      all_goals
       go_wp2_with fail
       go_meet
       first
        | exact ⟨rfl,_,g',gc2,l2,tb,rfl,hX.bel.size,Five.new wy _ _ _ _ _ _,(OB.behind hSm hOw hcg (by first | exact qq | exact Nat.lt_of_lt_of_le qq hS1.bel.size)).keep ((Below.refl _ wy).alloc (Nat.le_refl _) _),(RN.alloc hX _).bel⟩
        | exact ⟨rfl,_,g',gc2,l2,tb,rfl,Nat.le_refl _,Five.put _ _ _ _ _ ⟨⟨z0,z1,z2,z3,z4⟩,⟨y0,y1,y2,y3,y4⟩⟩,⟨hSm,(hOw.five' rfl (by first | (simp;done) | (simp;omega))).mono (Nat.zero_le _),hcg,(OB.behind (q:=q) hSm hOw hcg (by first | exact Nat.lt_of_lt_of_le qq hS1.bel.size | (simp;omega))).ng,(OB.behind (q:=q) hSm hOw hcg (by first | exact Nat.lt_of_lt_of_le qq hS1.bel.size | (simp;omega))).nt⟩,(RN.set5 hX (Nat.le_refl _) qq qq qq qq qq nbl _ _ _ _ _).bel⟩
    case rest =>
    obtain ⟨rfl,zp,g2,gc2,l2,tb2,rfl,hzp,hFp,hO,hB⟩:=hcut
    obtain ⟨WG,rfl⟩:∃W,W=wc:=⟨_,rfl⟩
    replace h:=h.call hB
    replace HX:=Lib.hid fun i hi=>qb _ hB (HX.out i hi)
    replace HFV:=Lib.hid (HFV.out.keep hB)
    clear q0 q1 q2 q3 q4 u0 u1 u2 u3 u4 t1 hS nbl HCH HBK hB
    obtain ⟨⟨q0,q1,q2,q3,q4⟩,_⟩:=h.c5
    obtain ⟨⟨v0,v1,v2,v3,v4⟩,_⟩:=id hFp
    have hO3:OB WG q (QY hN gs (j+1)) g2 gc2 l2 tb2:=⟨by rw [HSPN.out,qcA HY.out,HN.out];exact (Zq HSJ.out).trans hO.same,hO.own,hO.cap,hO.ng,hO.nt⟩
    have el2:l2.length=gs.length:=hO3.len.trans (HSP.out (j+1)).len
    have hsm2:(QY hN gs (j+1)).length≤20∧∀x∈QY hN gs (j+1),x.traffic.length≤20∧x.name.size≤100:=⟨by rw [(HSP.out (j+1)).len];exact HAT.out.small.1,fun x hx=>by
     obtain ⟨i',hi',rfl⟩:=List.getElem_of_mem hx
     obtain ⟨y,hy,e1,e2,_⟩:=(HSP.out (j+1)).get i' _ (List.getElem?_eq_getElem hi')
     rw [e1,e2]
     exact HAT.out.small.2 y (List.mem_of_getElem? hy)⟩
    have HSM2:=Lib.hid hsm2
    have hckp:=QA _ WG (hO3.book (B:=⟨lim,gr,hr,gs,some ⟨b,o,none⟩,gc⟩) hsm2)
    rw [hO3.check (B:=⟨lim,gr,hr,gs,some ⟨b,o,none⟩,gc⟩) (HSP.out (j+1)).chk] at hckp
    simp only [bv,el2] at hckp
    have HO3:=Lib.hid hO3
    have HFP:=Lib.hid hFp
    clear hO3 hO hFp hsm2
    go_upto_region 18 with (go_at_call 14;(with_reducible refine hckp.mono ?_);rintro e w5 ⟨rfl,hB⟩;replace h:=h.call hB;replace HX:=Lib.hid fun i hi=>qb _ hB (HX.out i hi);replace HFV:=Lib.hid (HFV.out.keep hB);replace HO3:=Lib.hid (HO3.out.keep hB);replace HFP:=Lib.hid (HFP.out.keep hB);clear q0 q1 q2 q3 q4 v0 v1 v2 v3 v4;clear hB;obtain ⟨⟨q0,q1,q2,q3,q4⟩,_⟩:=h.c5;obtain ⟨⟨v0,v1,v2,v3,v4⟩,_⟩:=id HFP.out)
    obtain ⟨⟨u0,u1,u2,u3,u4⟩,⟨f0,f1,f2,f3,f4⟩⟩:=id HFV.out
    go_wp2
    go_roundw
    case rel=>exact ⟨j+1,rfl,by omega,fun i hi=>by
     have hne:=HLQ.out i hi
     have n:∀x,(⟨q,x,none⟩:Addr)≠⟨lb,i,none⟩:=fun x e=>hne (congrArg Addr.block e).symm
     exact qc (n _) (qc (n _) (qc (n _) (qc (n _) (qc (n _) (HX.out i hi))))),some ⟨g2,0,none⟩,gc2,l2,HO3.out.same,HO3.out.set5.book (B:=⟨lim,gr,hr,gs,some ⟨b,o,none⟩,gc⟩) HSM2.out,HFV.out.put _ _ _ _ _,h.put5 HG.out hqw (fun p hp=>by
     simp only [List.mem_cons,List.not_mem_nil,or_false] at hp
     rcases hp with rfl | rfl | rfl | rfl | rfl <;> exact hqz)⟩
    case measure=>simp [intOf];omega
  ·have ej:N=j:=by omega
   subst ej
   clear HX hj
   go_upto_region 19 with fail
   go_cut [22,23] from 126 to 137 (fun a c wx=>a=.int .i64 I∧c=.int .i64 K∧Below wr.heap.size wr wx)
   case first =>
    clear q0 q1 q2 q3 u0 u1 u2 u3 u4
    go_region
    all_goals (go_wp2_with fail;go_meet;exact ⟨rfl,rfl,(Below.refl _ _).drew⟩)
   case rest =>
   obtain ⟨rfl,rfl,hB⟩:=hcut
   obtain ⟨WC,rfl⟩:∃W,W=wc:=⟨_,rfl⟩
   replace h:=h.call hB
   replace HBK:=Lib.hid (HBK.out.keep hB)
   replace HFV:=Lib.hid (HFV.out.keep hB)
   clear q0 q1 q2 q3 q4 u0 u1 u2 u3 u4 hB
   obtain ⟨⟨q0,q1,q2,q3,q4⟩,_⟩:=h.c5
   obtain ⟨⟨u0,u1,u2,u3,u4⟩,_⟩:=id HFV.out
   have hsl:(QY hN gs N).length=gs.length:=(HSP.out N).len
   obtain ⟨x,hx⟩:∃x,gs[I]? = some x:=⟨gs[I],List.getElem?_eq_getElem hIl⟩
   obtain ⟨y,hy⟩:∃y,l[I]? = some y:=⟨l[I]'(by omega),List.getElem?_eq_getElem _⟩
   obtain ⟨s,hs⟩:∃s,(QY hN gs N)[I]? = some s:=⟨(QY hN gs N)[I]'(by omega),List.getElem?_eq_getElem _⟩
   obtain ⟨_,est,esf⟩:=HSJ.out.2 I s y hs hy
   obtain ⟨rb,ro,er,hrc⟩:=HBK.out.row (by show 1≤l.length;omega)
   simp only at er
   subst er
   have t1:=(hrc I y hy).2.1
   have c1:=qb _ h.bw (HC.out I x hx).2.1
   have HXI:=Lib.hid hx
   have HYI:=Lib.hid hy
   have HSI:=Lib.hid hs
   have EST:=Lib.hid est
   have ESF:=Lib.hid esf
   have i1:(I:Int) < (gs.length:Int):=by omega
   have i2:(0:Int)≤(I:Int):=Int.natCast_nonneg I
   have k1:(K:Int) < (gs.length:Int):=by omega
   have k2:(0:Int)≤(K:Int):=Int.natCast_nonneg K
   clear hx hy hs est esf hrc
   have hcase:(y.trunks=x.trunks∨I=K)∨(y.trunks≠x.trunks∧I≠K):=by omega
   rcases hcase with hcase | ⟨hne,hik⟩
   ·go_upto_region 20 with fail
    go_cut [155] from 138 to 155 (fun s wx=>s=.bool true∧Below WC.heap.size WC wx)
    case first =>
     by_cases e:y.trunks=x.trunks
     ·rw [e] at t1
      clear q0 q1 q2 q3 u0 u1 u2 u3
      (try clear h);(try clear HL);(try clear hh);(try clear hm);(try clear ho);(try clear ht);(try clear hG);(try clear ww1);(try clear ww2);(try clear ww3);(try clear ww4);(try clear ww5);(try clear eh);(try clear eN);(try clear eI);(try clear eK);(try clear n1);(try clear n2);(try clear HSP);(try clear HAT);(try clear HCK);(try clear HV);(try clear HG);(try clear HC);(try clear hl1);(try clear hl4);(try clear hr1);(try clear HLQ);(try clear HSA);(try clear HSJ);(try clear HBK);(try clear HFV);(try clear HCK2);(try clear hqw);(try clear hqz);(try clear el);(try clear hsl);(try clear HXI);(try clear HYI);(try clear HSI);(try clear EST);(try clear ESF);(try clear hlt);(try clear hN6);(try clear hIl);(try clear hKl);(try clear k1);(try clear k2);(try clear HNE);(try clear HIK);(try clear hcase)
      (first | (go_region_with fail) | fail)
      all_goals (go_wp2_with fail;go_meet;exact ⟨rfl,(Below.refl _ _).drew⟩)
     ·obtain rfl:I=K:=by omega
      have eb:(y.trunks == x.trunks)=false:=by rw [beq_eq_false_iff_ne];exact e
      have hS:RN WC ⟨wz,4,none⟩ ⟨wz,4,none⟩ ⟨q,4,none⟩ ⟨q,4,none⟩ ⟨b,o+I * 3+1,none⟩ ⟨rb,ro+I * 3+1,none⟩ (.slice (some ⟨b,o,none⟩) gs.length gc) (.slice (some ⟨b,o,none⟩) gs.length gc) (.slice (some ⟨rb,ro,none⟩) gs.length gc') (.slice (some ⟨rb,ro,none⟩) gs.length gc') (.int .i64 x.trunks) (.int .i64 y.trunks) WC:=⟨q4,q4,u4,u4,c1,t1,Below.refl _ _⟩
      clear q0 q1 q2 q3 q4 u0 u1 u2 u3 u4 t1 c1 e
      go_region_held3 (RN WC ⟨wz,4,none⟩ ⟨wz,4,none⟩ ⟨q,4,none⟩ ⟨q,4,none⟩ ⟨b,o+I * 3+1,none⟩ ⟨rb,ro+I * 3+1,none⟩ (.slice (some ⟨b,o,none⟩) gs.length gc) (.slice (some ⟨b,o,none⟩) gs.length gc) (.slice (some ⟨rb,ro,none⟩) gs.length gc') (.slice (some ⟨rb,ro,none⟩) gs.length gc') (.int .i64 x.trunks) (.int .i64 y.trunks)) (first | with_reducible exact RN.drew hS) (fail)
      all_goals (rename_i hH;go_wp2_with fail;go_meet;exact ⟨rfl,RN.bel hH⟩)
    case rest =>
    obtain ⟨rfl,hB⟩:=hcut
    replace h:=h.call hB
    clear q0 q1 q2 q3 q4 u0 u1 u2 u3 u4 t1 c1 hB
    go_wp2_with (go_at_call 9;(refine (HL _ h.gl).mono ?_);rintro e w9 ⟨rfl,hB9⟩)
    go_ret
    exact ⟨rfl,(h.call hB9).bw⟩
   ·have eb1:(y.trunks == x.trunks)=false:=by rw [beq_eq_false_iff_ne];exact hne
    have eb2:((I:Int) == (K:Int))=false:=by rw [beq_eq_false_iff_ne];omega
    have HNE:=Lib.hid hne
    have HIK:=Lib.hid hik
    clear hne hik
    go_upto_region 20 with fail
    go_cut [155] from 138 to 155 (fun s wx=>s=.bool false∧Below WC.heap.size WC wx)
    case first =>
     have hS:RN WC ⟨wz,4,none⟩ ⟨wz,4,none⟩ ⟨q,4,none⟩ ⟨q,4,none⟩ ⟨b,o+I * 3+1,none⟩ ⟨rb,ro+I * 3+1,none⟩ (.slice (some ⟨b,o,none⟩) gs.length gc) (.slice (some ⟨b,o,none⟩) gs.length gc) (.slice (some ⟨rb,ro,none⟩) gs.length gc') (.slice (some ⟨rb,ro,none⟩) gs.length gc') (.int .i64 x.trunks) (.int .i64 y.trunks) WC:=⟨q4,q4,u4,u4,c1,t1,Below.refl _ _⟩
     clear q0 q1 q2 q3 q4 u0 u1 u2 u3 u4 t1 c1
     (try clear h);(try clear HL);(try clear hh);(try clear hm);(try clear ho);(try clear ht);(try clear hG);(try clear ww1);(try clear ww2);(try clear ww3);(try clear ww4);(try clear ww5);(try clear eh);(try clear eN);(try clear eI);(try clear eK);(try clear n1);(try clear n2);(try clear HSP);(try clear HAT);(try clear HCK);(try clear HV);(try clear HG);(try clear HC);(try clear hl1);(try clear hl4);(try clear hr1);(try clear HLQ);(try clear HSA);(try clear HSJ);(try clear HBK);(try clear HFV);(try clear HCK2);(try clear hqw);(try clear hqz);(try clear el);(try clear hsl);(try clear HXI);(try clear HYI);(try clear HSI);(try clear EST);(try clear ESF);(try clear hlt);(try clear hN6);(try clear hIl);(try clear hKl);(try clear k1);(try clear k2);(try clear HNE);(try clear HIK)
     go_region_held3 (RN WC ⟨wz,4,none⟩ ⟨wz,4,none⟩ ⟨q,4,none⟩ ⟨q,4,none⟩ ⟨b,o+I * 3+1,none⟩ ⟨rb,ro+I * 3+1,none⟩ (.slice (some ⟨b,o,none⟩) gs.length gc) (.slice (some ⟨b,o,none⟩) gs.length gc) (.slice (some ⟨rb,ro,none⟩) gs.length gc') (.slice (some ⟨rb,ro,none⟩) gs.length gc') (.int .i64 x.trunks) (.int .i64 y.trunks)) (first | with_reducible exact RN.drew hS) (fail)
     all_goals (rename_i hH;go_wp2_with fail;go_meet;exact ⟨rfl,RN.bel hH⟩)
    case rest =>
    obtain ⟨rfl,hB⟩:=hcut
    obtain ⟨WF,rfl⟩:∃W,W=wc:=⟨_,rfl⟩
    replace h:=h.call hB
    replace HBK:=Lib.hid (HBK.out.keep hB)
    replace HFV:=Lib.hid (HFV.out.keep hB)
    have t1:=qb _ hB t1
    clear q0 q1 q2 q3 q4 u0 u1 u2 u3 u4 c1 hB eb1 eb2
    obtain ⟨⟨u0,u1,u2,u3,u4⟩,_⟩:=id HFV.out
    obtain ⟨p0,p6,pc,_⟩:=(HSP.out N).last_pos HV.out hlt HSI.out HXI.out (by rw [← EST.out];exact HNE.out)
    rw [← EST.out] at p0 p6 pc
    have hg2:(yL l I (y.trunks - 1))[I]? = some { y with trunks:=y.trunks - 1 }:=by rw [jL HYI.out,List.getElem?_set_self (by omega)]
    have hck2:∀ga gc,checkN ⟨lim,gr,hr,yL l I (y.trunks - 1),ga,gc⟩=0:=fun ga gc=>(xD (B:=⟨lim,gr,hr,yL (QY hN gs N) I (y.trunks - 1),some ⟨b,o,none⟩,gc⟩) (Zq HSJ.out) ga gc).trans pc
    have hX:=qcN (B:=⟨lim,gr,hr,yL l I (y.trunks - 1),none,0⟩) (qy (hck2 none 0)) hlt hg2 (by show y.trunks - 1≠7;omega)
    have hwi:=fun W (hB:Below WF.heap.size WF W)=>With_any _ I (y.trunks - 1) W (HBK.out.keep hB) (by show I < l.length;omega)
    have hsv:=fun ng gc2 W hb hG=>qaZ (B:=⟨lim,gr,hr,yL l I (y.trunks - 1),some ⟨ng,0,none⟩,gc2⟩) W hb hG (hck2 _ _) hg2 hlt (by show y.trunks - 1≠7;omega)
    have hgs:qp { y with trunks:=y.trunks - 1 } hN=qp { s with trunks:=s.trunks - 1 } hN:=QS hN ESF.out (by show y.trunks - 1=s.trunks - 1;rw [EST.out])
    have hbest:∀(zs:Grp),(QY hN gs N)[K]? = some zs→zs.trunks≠7→above (qp zs hN) (qp { y with trunks:=y.trunks - 1 } hN)=false:=fun zs hz h7=>by
     rw [hgs]
     exact (HSP.out N).best I K s x zs HSI.out HXI.out (by rw [← EST.out];exact HNE.out) (fun e=>HIK.out e.symm) hz h7
    simp only [bv,WithP,el,qH] at hwi hsv
    generalize qp { y with trunks:=y.trunks - 1 } hN=X at *
    obtain ⟨X1,X2⟩:=X
    simp only [fv] at hsv
    have wn:IntKind.i64.wrap (y.trunks - 1)=y.trunks - 1:=by rw [IntKind.wrap_i64];omega
    have HWI:=Lib.hid hwi
    have HSV:=Lib.hid hsv
    have HBS:=Lib.hid hbest
    have HXF:=Lib.hid hX
    have HGW:=Lib.hid h.gl
    have hS:RN WF ⟨q,0,none⟩ ⟨q,1,none⟩ ⟨q,2,none⟩ ⟨q,3,none⟩ ⟨q,4,none⟩ ⟨rb,ro+I * 3+1,none⟩ (.int .i64 lim.1) (.int .i64 lim.2) (.int .i64 gr) (.int .i64 hr) (.slice (some ⟨rb,ro,none⟩) gs.length gc') (.int .i64 y.trunks) WF:=⟨u0,u1,u2,u3,u4,t1,Below.refl _ _⟩
    have qq:q < WF.heap.size:=lt_of_cell u0
    have nbl:rb < WF.heap.size:=lt_of_cell t1
    have hK:KSt WF WF []:=⟨fun p hp=>absurd hp (by simp),h.gl,Below.refl _ _⟩
    clear hwi hsv hbest hX hgs hck2 hg2 pc
    go_upto_region 22 with fail
    go_cut [24,25] from 158 to 172 (fun p s wx=>∃z,p=.pointer (some ⟨z,0,none⟩)∧s=.bool true∧KSt WF wx [(⟨z,0,none⟩,.int .i64 X1),(⟨z,1,none⟩,.int .i64 X2)])
    case first =>
     as_aux_lemma =>
      clear u0 u1 u2 u3 u4 t1 h
      go_region_held3 (RN WF ⟨q,0,none⟩ ⟨q,1,none⟩ ⟨q,2,none⟩ ⟨q,3,none⟩ ⟨q,4,none⟩ ⟨rb,ro+I * 3+1,none⟩ (.int .i64 lim.1) (.int .i64 lim.2) (.int .i64 gr) (.int .i64 hr) (.slice (some ⟨rb,ro,none⟩) gs.length gc') (.int .i64 y.trunks)) (first | with_reducible exact RN.drew hS | with_reducible exact hX | with_reducible exact RN.alloc hX _ | with_reducible exact (RN.alloc hS _).drew | with_reducible exact RN.set (RN.set hX (Nat.le_refl _) qq qq qq qq qq nbl _) (Nat.le_refl _) qq qq qq qq qq nbl _ | with_reducible exact RN.set (RN.set hX hXW.size qq qq qq qq qq nbl _) hXW.size qq qq qq qq qq nbl _) (first | (go_at_call 19;have hS1:RN WF ⟨q,0,none⟩ ⟨q,1,none⟩ ⟨q,2,none⟩ ⟨q,3,none⟩ ⟨q,4,none⟩ ⟨rb,ro+I * 3+1,none⟩ (.int .i64 lim.1) (.int .i64 lim.2) (.int .i64 gr) (.int .i64 hr) (.slice (some ⟨rb,ro,none⟩) gs.length gc') (.int .i64 y.trunks) _:=(by with_reducible assumption);(with_reducible refine (HWI.out _ hS1.bel).mono ?_);rintro e wy ⟨⟨ng,gc2,rfl,hWB⟩,hB⟩;have hX:=RN.call hS1 hB;have hXW:=hX.bel;(try (have c0:wy.cell? ⟨WF.heap.size,0,none⟩=some (.int .i64 0):=qb _ hB (qm WF #[.int .i64 0,.int .i64 0] 23 0 (by decide));have c1:wy.cell? ⟨WF.heap.size,1,none⟩=some (.int .i64 0):=qb _ hB (qm WF #[.int .i64 0,.int .i64 0] 23 1 (by decide));have y0:wy.frozen? ⟨WF.heap.size,0,none⟩=false:=qd _ hB (qm WF #[.int .i64 0,.int .i64 0] 23 0 (by decide)) (qD WF #[.int .i64 0,.int .i64 0] 23 0 (by decide));have y1:wy.frozen? ⟨WF.heap.size,1,none⟩=false:=qd _ hB (qm WF #[.int .i64 0,.int .i64 0] 23 1 (by decide)) (qD WF #[.int .i64 0,.int .i64 0] 23 1 (by decide))))) | (go_at_call 18;have hS2:RN WF ⟨q,0,none⟩ ⟨q,1,none⟩ ⟨q,2,none⟩ ⟨q,3,none⟩ ⟨q,4,none⟩ ⟨rb,ro+I * 3+1,none⟩ (.int .i64 lim.1) (.int .i64 lim.2) (.int .i64 gr) (.int .i64 hr) (.slice (some ⟨rb,ro,none⟩) gs.length gc') (.int .i64 y.trunks) _:=(by with_reducible assumption);(with_reducible refine (HSV.out _ _ _ (by first | with_reducible exact hWB | exact hWB.keep ((Below.refl _ _).alloc (Nat.le_refl _) _)) (HGW.out.keep hS2.bel)).mono ?_);rintro e wv ⟨rfl,hB⟩;have hX:=RN.call hS2 hB;(first | (replace y0:=qd _ hB c0 y0;replace y1:=qd _ hB c1 y1;replace c0:=qb _ hB c0;replace c1:=qb _ hB c1) | (have c0:wv.cell? ⟨wy.heap.size,0,none⟩=some (.int .i64 0):=qb _ hB (qm wy #[.int .i64 0,.int .i64 0] 23 0 (by decide));have c1:wv.cell? ⟨wy.heap.size,1,none⟩=some (.int .i64 0):=qb _ hB (qm wy #[.int .i64 0,.int .i64 0] 23 1 (by decide));have y0:wv.frozen? ⟨wy.heap.size,0,none⟩=false:=qd _ hB (qm wy #[.int .i64 0,.int .i64 0] 23 0 (by decide)) (qD wy #[.int .i64 0,.int .i64 0] 23 0 (by decide));have y1:wv.frozen? ⟨wy.heap.size,1,none⟩=false:=qd _ hB (qm wy #[.int .i64 0,.int .i64 0] 23 1 (by decide)) (qD wy #[.int .i64 0,.int .i64 0] 23 1 (by decide));have hBY:=Below.call ((Below.refl _ wy).alloc (Nat.le_refl _) _) hB (by simp)) | skip)))
      all_goals (go_wp2_with fail;go_meet;first | exact ⟨_,rfl,rfl,(hK.call (RN.bel hX)).box2 _ _ _⟩ | exact ⟨_,rfl,rfl,KSt.set2 hK (RN.bel hX) c0 c1 _ _⟩ | exact ⟨_,rfl,rfl,KSt.set2 (hK.call hXW) hBY c0 c1 _ _⟩)
    case rest =>
    obtain ⟨z,rfl,rfl,h1⟩:=hcut
    obtain ⟨WG,rfl⟩:∃W,W=wc:=⟨_,rfl⟩
    replace h:=h.call h1.bw
    replace HBK:=Lib.hid (HBK.out.keep h1.bw)
    replace HFV:=Lib.hid (HFV.out.keep h1.bw)
    clear u0 u1 u2 u3 u4 t1 hS qq nbl hK HWI HSV HGW
    obtain ⟨⟨u0,u1,u2,u3,u4⟩,_⟩:=id HFV.out
    obtain ⟨⟨x0,x1⟩,_⟩:=h1.c2
    obtain ⟨y2,hy2⟩:∃y,l[K]? = some y:=⟨l[K]'(by omega),List.getElem?_eq_getElem _⟩
    obtain ⟨s2,hs2⟩:∃s,(QY hN gs N)[K]? = some s:=⟨(QY hN gs N)[K]'(by omega),List.getElem?_eq_getElem _⟩
    obtain ⟨_,est2,esf2⟩:=HSJ.out.2 K s2 y2 hs2 hy2
    obtain ⟨rb2,ro2,er,hrc⟩:=HBK.out.row (by show 1≤l.length;omega)
    simp only [Option.some.injEq,Addr.mk.injEq] at er
    obtain ⟨rfl,rfl,_⟩:=er
    have t1:=(hrc K y2 hy2).2.1
    clear h1
    by_cases h7:y2.trunks=7
    ·have hsv:=qdY _ HBK.out h.gl HCK2.out hy2 hlt h7
     simp only [bv,fv,el] at hsv
     rw [h7] at t1
     obtain ⟨z1,ez1⟩:∃z1:Int,z1=0:=⟨_,rfl⟩
     obtain ⟨z2,ez2⟩:∃z2:Int,z2=1:=⟨_,rfl⟩
     rw [← ez1,← ez2] at hsv
     clear ez1 ez2 hrc hy2 hs2 est2 esf2 h7
     go_wp2_with (first | (go_at_call 18;(with_reducible refine hsv.mono ?_);rintro e w6 ⟨rfl,hB⟩;have hBB:Below WG.heap.size WG (w6.alloc (.cells #[.int .i64 z1,.int .i64 z2] 23)):=hB.alloc hB.size _;have t1:=qb _ hBB t1;have u4:=qb _ hBB u4;replace h:=h.call hBB;clear hB) | (go_at_call 9;(refine (HL _ h.gl).mono ?_);rintro e w9 ⟨rfl,hB9⟩))
     go_ret
     exact ⟨rfl,(h.call hB9).bw⟩
    ·have hsv:=qaZ _ HBK.out h.gl HCK2.out hy2 hlt h7
     have hyf:=qcN (B:=⟨lim,gr,hr,l,some ⟨rb,ro,none⟩,gc'⟩) (qy HCK2.out) hlt hy2 h7
     have hab:=HBS.out s2 hs2 (by rw [← est2];exact h7)
     rw [← QS hN esf2 est2] at hab
     simp only [bv,el] at hsv
     generalize qp y2 hN=Y at *
     obtain ⟨Y1,Y2⟩:=Y
     simp only [fv] at hsv
     have hxf:=HXF.out
     simp only at hxf hyf
     have hle:=fun W=>qct (X1,X2) (Y1,Y2) W hxf.2.1 (by show 0 < X2;omega) hyf.2.1 (by show 0 < Y2;omega) hxf.2.2.1 hxf.2.2.2.2 hyf.2.2.1 hyf.2.2.2.2
     rw [hab] at hle
     simp only [fv] at hle
     clear hxf hyf hab hrc hy2 hs2 est2 esf2 HXF HBS h7
     go_wp2_with (first | (go_at_call 18;(with_reducible refine hsv.mono ?_);rintro e w6 ⟨rfl,hB⟩;have hBB:Below WG.heap.size WG (w6.alloc (.cells #[.int .i64 Y1,.int .i64 Y2] 23)):=hB.alloc hB.size _;have x0:=qb _ hBB x0;have x1:=qb _ hBB x1;have y0:(w6.alloc (.cells #[.int .i64 Y1,.int .i64 Y2] 23)).cell? ⟨w6.heap.size,0,none⟩=some (.int .i64 Y1):=qm w6 #[.int .i64 Y1,.int .i64 Y2] 23 0 (by simp);have y1:(w6.alloc (.cells #[.int .i64 Y1,.int .i64 Y2] 23)).cell? ⟨w6.heap.size,1,none⟩=some (.int .i64 Y2):=qm w6 #[.int .i64 Y1,.int .i64 Y2] 23 1 (by simp);replace h:=h.call hBB;clear hB) | (go_at_call 20;(with_reducible refine (hle _).mono ?_);rintro e w7 ⟨rfl,hB⟩;replace h:=h.call hB;clear hB) | (go_at_call 9;(refine (HL _ h.gl).mono ?_);rintro e w9 ⟨rfl,hB9⟩))
     go_ret
     exact ⟨rfl,(h.call hB9).bw⟩
set_option maxHeartbeats 8000000 in
set_option maxRecDepth 100000 in
theorem Yf (HL:∀W,Globs W→Calls qg 9 #[] W fun e w'=>e=.returned (.bool true)∧Below W.heap.size W w') (B:Bk) (hour many one two:Int) (w:World) (hG:Globs w) (hB:BookIn w B) (hc:B.gs.length≤B.gc) (hf:fitB B=false) :
 Calls qg 4 #[bv B,.int .u8 hour,.int .u8 many,.int .u8 one,.int .u8 two] w fun e w'=>e=.returned (.bool true)∧Below w.heap.size w w':=by
 have hfi:=fun W (h:Below w.heap.size w W)=>Jk B W (hB.keep h) hc
 simp only [hf] at hfi
 have HLL:=fun W (h:Below w.heap.size w W)=>HL W (hG.keep h)
 obtain ⟨lim,gr,hr,gs,ga,gc⟩:=B
 simp only [bv] at *
 clear hB hf HL hG
 go_enter s4,ntmps4
 go_wp2_with (first | (go_at_call 8;(with_reducible refine (hfi _ (by go_grown)).mono ?_);rintro e w1 ⟨rfl,hB1⟩;have hB:Below w.heap.size w w1:=Below.call (by go_grown) hB1 (by simp)) | (go_at_call 9;(refine (HLL _ hB).mono ?_);rintro e w2 ⟨rfl,hB2⟩))
 go_ret
 exact ⟨rfl,bcl hB hB2⟩
theorem Jm (HL:∀W,Globs W→Calls qg 9 #[] W fun e w'=>e=.returned (.bool true)∧Below W.heap.size W w') (B:Bk) (hour many one two:Int) (hh:0≤hour∧hour≤255) (hm:0≤many∧many≤255) (ho:0≤one∧one≤255) (ht:0≤two∧two≤255) (w:World) (hG:Globs w) (hB:BookIn w B) (hc:B.gs.length≤B.gc) :
 Calls qg 4 #[bv B,.int .u8 hour,.int .u8 many,.int .u8 one,.int .u8 two] w fun e w'=>e=.returned (.bool true)∧Below w.heap.size w w':=by
 cases hf:fitB B with
 | false=>exact Yf HL B hour many one two w hG hB hc hf
 | true=>exact Xx HL B hour many one two hh hm ho ht w hG hB hc hf
end Go.Proofs.Tryz
end
