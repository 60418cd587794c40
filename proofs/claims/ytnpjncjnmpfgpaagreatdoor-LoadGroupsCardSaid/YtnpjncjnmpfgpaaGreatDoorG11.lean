/-
  Lemmas about the program and the machine (C39 to C39), upon which the last text of this claim rests; no condition.
-/
import Derived.WalkMore
import Derived.Test.YtnpjncjnmpfgpaaGreatDoorG09
import Derived.Test.YtnpjncjnmpfgpaaGreatDoorG08
set_option linter.unusedSimpArgs false
set_option linter.unusedVariables false
namespace Go.Proofs.Tryz
open Go Go.Load Go.RowKit Go.Maps
def Qt (B:Bk) (t n:Int) (base:Nat) (e:Ending) (W:World):Prop :=
 if checkN B=0 then
  if btw t 0 (wrap64 (B.hours - 1))=true then
   if btw n 0 6=true then ∃v,e=.returned (.tuple #[v,.int .i64 0])∧SliceOf base W v (qcF n.toNat (zy t.toNat n.toNat B.gs))
   else e=.returned (.tuple #[.slice none 0 0,.int .i64 1])
  else e=.returned (.tuple #[.slice none 0 0,.int .i64 6])
 else e=.returned (.tuple #[.slice none 0 0,.int .i64 (checkN B)])
theorem SpSt.grow {w W W1:World} {B:Bk} {h q mc hc m g gc k:Nat} {tb:Nat→Nat} {l:List Grp} (s:SpSt w B h q mc hc m g gc tb l W) (hg:W.grownBy W1 (some k)) (hk:mc < k):SpSt w B h q mc hc m g gc tb l W1:=by
 have h1:=s.own.lo
 have h2:=s.gm
 have h3:=s.lo
 have h4:=s.hq
 have h5:=s.mm
 have hmap:zY m W1:=let ⟨L,h⟩:=s.map;⟨L,h.block (hg.block m s.map.lt (by simp;omega))⟩
 exact ⟨s.bel.grown hg s.bel.size (fun j e=>by cases e;omega),s.own.one hg (by omega) (fun i hi=>by have:=s.tm i hi;omega),s.gm,s.tm,s.box.one hg (by omega),s.lo,s.hq,s.mm,qp hg s.mp (by show mc≠k;omega),qp hg s.hp (by show hc≠k;omega),hmap,s.cap,s.small⟩
theorem SpSt.grow' {w W W1:World} {B:Bk} {h q mc hc m g gc:Nat} {row:Option Nat} {tb:Nat→Nat} {l:List Grp} (s:SpSt w B h q mc hc m g gc tb l W) (hg:W.grownBy W1 row) (hk:∀k,row=some k→mc < k):SpSt w B h q mc hc m g gc tb l W1:=by
 cases row with
 | none=>exact s.keep ⟨hg.os,hg.tape,hg.output,hg.size,fun k hk=>hg.block k hk (by simp)⟩
 | some k=>exact s.grow hg (hk k rfl)
def lenV:Value→Nat
 | .slice _ n _=>n
 | _=>0
theorem slice_form {base:Nat} {W:World} {v:Value} {L:List Int} (h:SliceOf base W v L):∃a c,v=.slice a L.length c:=by
 obtain ⟨_,⟨h1,h2⟩ | ⟨g,cap,cur,rfl,_⟩⟩:=h
 ·exact ⟨none,0,by rw [h1];simp_all⟩
 ·exact ⟨_,_,rfl⟩
theorem qak {base m g:Nat} {W V W1:World} {v:Value} {L:List Int} (h:SliceOf base W v L) (h1:W.grownBy V (some m)) (h2:V.grownBy W1 (some g)) (hm:m < base) (hg:g < base):SliceOf base W1 v L:=by
 have e:∀b,b < base→v.ownBlock=none∨v.ownBlock≠some b:=fun b hb=>by
  cases hv:v.ownBlock with
  | none=>exact .inl rfl
  | some k=>exact .inr (fun e=>by have:=(h.lt k hv).1;cases e;omega)
 exact (h.kept h1 (e m hm)).kept h2 (e g hg)
set_option maxHeartbeats 8000000 in
set_option maxRecDepth 100000 in
theorem qct (B:Bk) (t n:Int) (w:World) (h:BookAt w B) (hG:Globs w):Calls qf 26 #[bv B,.int .i64 t,.int .i64 n] w fun e w'=>Qt B t n w.heap.size e w'∧Below w.heap.size w w':=by
 have his:=fun W=>Zd B t W
 have hop:=fun W (hB:Below w.heap.size w W)=>yw B (btw t 0 (wrap64 (B.hours - 1))) W (h.keep hB) (hG.keep hB)
 obtain ⟨n0,n1,n2,n3,xa,xn,xc,a,hv,hcase⟩:=Qg B (btw t 0 (wrap64 (B.hours - 1)))
 simp only [hv] at hop
 have HH:=Lib.hid h
 have hRa:a≠0→∀e W,e=.returned (.tuple #[.slice none 0 0,.int .i64 a])→Qt B t n w.heap.size e W:=fun h0 e W he=>by
  rcases hcase with ⟨e,_⟩ | ⟨⟨_,ha⟩,hf⟩
  ·exact absurd e h0
  ·unfold Qt
   by_cases hz:checkN B=0
   ·rw [if_pos hz] at ha ⊢;rw [if_neg (by rw [hf hz];decide),he,ha]
   ·rw [if_neg hz] at ha ⊢;rw [he,ha]
 have hR0:a=0→checkN B=0∧btw t 0 (wrap64 (B.hours - 1))=true∧B.lim.1=n0∧B.lim.2=n1∧B.growth=n2∧B.hours=n3∧B.ga=xa∧B.gs.length=xn∧B.gc=xc:=fun h0=>by
  rcases hcase with ⟨_,h1,h2,h3,h4,h5,h6,h7,h8,h9⟩ | ⟨⟨h1,_⟩,_⟩
  ·exact ⟨h1,h2,h3.symm,h4.symm,h5.symm,h6.symm,h7.symm,h8.symm,h9.symm⟩
  ·exact absurd h0 h1
 have HA:=Lib.hid hRa
 have H0:=Lib.hid hR0
 obtain ⟨th,hth⟩:∃th,btw t 0 (wrap64 (B.hours - 1))=th:=⟨_,rfl⟩
 rw [hth] at his hop
 have HTH:=Lib.hid hth
 clear h hv hcase hRa hR0 hth
 have hmm:=YC
 have HGl:=Lib.hid hG
 clear hG
 obtain ⟨i0,hi,hz0,hz1,hz2⟩:=info_parts ZY
 have hi:=Lib.hid ((yE 3).trans hi)
 obtain ⟨lim,gr,hr,gs,ga,gc⟩:=B
 simp only [bv] at *
 go_enter s26,ntmps26
 go_wp2
 go_step3
 go_upto_region 1 with fail
 go_cut [8,9] (fun p al wx=>∃q:Nat,wx.cell? ⟨w.heap.size+1,0,none⟩=some (.int .i64 t)∧w.heap.size+1 < q∧p=.pointer (some ⟨q,0,none⟩)∧al=.int .i64 a∧Below w.heap.size w wx∧Opened w (.int .i64 lim.1) (.int .i64 lim.2) (.int .i64 gr) (.int .i64 hr) (.slice ga gs.length gc) (.int .i64 n0) (.int .i64 n1) (.int .i64 n2) (.int .i64 n3) (.slice xa xn xc) q wx)
 case rest =>
  obtain ⟨q,r0,hq,rfl,rfl,hBc,hO⟩:=hcut
  by_cases hz:a=0
  ·have h0:=H0.out hz
   subst hz
   obtain ⟨hz,ht,rfl,rfl,rfl,rfl,rfl,rfl,rfl⟩:=h0
   have hV:=qI hz
   have ht2:=xh.1 ht
   rw [Zc hz] at ht2
   obtain ⟨hn0,hn1⟩:=ht2
   obtain ⟨h,rfl⟩:=Int.eq_ofNat_of_zero_le hn0
   have hhr:(h:Int) < hr:=by have:(h:Int)≤hr - 1:=hn1;omega
   have HC:=Lib.hid (And.intro hz ht)
   have HV:=Lib.hid hV
   clear hn0 hn1 hz ht hV
   by_cases hnn:0≤n∧n≤6
   ·have hbt:=fun W=>qC n 0 6 W hnn
    obtain ⟨N,rfl⟩:=Int.eq_ofNat_of_zero_le hnn.1
    have hN6:N≤6:=by omega
    have hfl:∀g∈gs,1≤g.traffic.length:=fun g hg=>by have:=(HV.out.grp g hg).len;have:=HV.out.num.2.2.1;simp only at *;omega
    have hown:=fun W (hB:Below w.heap.size w W)=>qbf ⟨lim,gr,hr,gs,ga,gc⟩ W (HH.out.keep hB) HV.out.len1 hfl
    simp only [bv] at hown
    obtain ⟨x0,x1,x2,x3,x4⟩:=hO.x
    obtain ⟨y0,y1,y2,y3,y4⟩:=hO.fz
    have HF6:Hid (Five wc q (.int .i64 lim.1) (.int .i64 lim.2) (.int .i64 gr) (.int .i64 hr) (.slice ga gs.length gc)):=Lib.hid ⟨hO.x,hO.fz⟩
    clear hO hnn hfl his hop
    have hql:q < wc.heap.size:=lt_of_cell x0
    go_wp2
    go_wp2_with (go_at_call 65;(with_reducible refine (hbt _).mono ?_);rintro e w1 ⟨rfl,rfl⟩)
    go_at_call 66
    refine (hown _ hBc).mono ?_
    rintro e w2 ⟨hP,hB2⟩
    obtain ⟨g,cg,l,tb,rfl,hN⟩:=hP.first
    have hF6:=HF6.out.keep hB2
    have r0:=qb _ hB2 r0
    have hBx:=bcl hBc hB2
    clear hown hB2 x0 x1 x2 x3 x4 y0 y1 y2 y3 y4 hP hbt
    obtain ⟨⟨x0,x1,x2,x3,x4⟩,⟨y0,y1,y2,y3,y4⟩⟩:=id hF6
    simp only [bv]
    go_wp2
    go_step3
    go_wp2
    have hsm:=HH.out.small
    have hqw:q+1≤wc.heap.size:=hql
    obtain ⟨W5,hW5⟩:∃W5,set5 w2 q (.int .i64 lim.1) (.int .i64 lim.2) (.int .i64 gr) (.int .i64 hr) (.slice (some ⟨g,0,none⟩) l.length cg)=W5:=⟨_,rfl⟩
    have hs5:W5.heap.size=w2.heap.size:=by subst hW5;simp [set5]
    have hB5:Below w.heap.size w W5:=by subst hW5;exact Below.set5 hBx (by omega)
    have hN5:Xc (q+1) ⟨lim,gr,hr,gs,ga,gc⟩ 0 W5 g cg l tb:=by subst hW5;exact (hN.mono hqw).five (by omega)
    have hF5:Five W5 q (.int .i64 lim.1) (.int .i64 lim.2) (.int .i64 gr) (.int .i64 hr) (.slice (some ⟨g,0,none⟩) l.length cg):=by subst hW5;exact hF6.put _ _ _ _ _
    have r5:W5.cell? ⟨w.heap.size+1,0,none⟩=some (.int .i64 h):=by subst hW5;exact (qM (by show w.heap.size+1≠q;omega)).trans r0
    unfold set5 at hW5
    rw [hW5]
    clear hW5 x0 x1 x2 x3 x4 y0 y1 y2 y3 y4 hF6 hN r0 hBx HF6
    obtain ⟨W6,hW6⟩:∃W6,W5.alloc (Obj.map #[] 0)=W6:=⟨_,rfl⟩
    have hb6:Below W5.heap.size W5 W6:=by subst hW6;exact (Below.refl _ W5).alloc (Nat.le_refl _) _
    have hm6:zY w2.heap.size W6:=by subst hW6;rw [← hs5];exact Qc W5
    have hs6:W6.heap.size=w2.heap.size+1:=by subst hW6;simp;omega
    rw [hW6]
    clear hW6
    obtain ⟨W7,hW7⟩:∃W7,W6.alloc (Obj.cells #[.map (some w2.heap.size)] 112)=W7:=⟨_,rfl⟩
    have hb7:Below W6.heap.size W6 W7:=by subst hW7;exact (Below.refl _ W6).alloc (Nat.le_refl _) _
    have hm7:W7.cell? ⟨w2.heap.size+1,0,none⟩=some (.map (some w2.heap.size)):=by subst hW7;exact QM W6 _ _ 0 (by simp) hs6.symm
    have hs7:W7.heap.size=w2.heap.size+1+1:=by subst hW7;simp;omega
    rw [hW7]
    clear hW7
    have hb57:Below W5.heap.size W5 W7:=bcl hb6 hb7
    have hSm:=(hN5.book hsm).small
    have S:SpSt w ⟨lim,gr,hr,gs,ga,gc⟩ h q (w2.heap.size+1) (w.heap.size+1) w2.heap.size g cg tb l W7 :=
     ⟨bcl hB5 hb57,(hN5.keep hb57).2.1,by have:=hN5.2.1.hi;omega,fun i hi=>by have:=(hN5.2.1.ta i l[i] hi (by simp)).2.2.1;omega,hF5.keep hb57,Nat.le_succ _,hq,Nat.lt_succ_self _,hm7,qb _ hb57 r5,hm6.keep hb7,hN5.2.2,hSm⟩
    have HVl:Valid ⟨lim,gr,hr,l,some ⟨g,0,none⟩,cg⟩:=HV.out.move hN5.1 _ _
    have HL:Hid (zy h N gs=zy h N l):=Lib.hid (qam (l:=gs) (l':=l) hN5.1).symm
    have hwW:=S.bel.size
    have S:=Lib.hid S
    have HVl:=Lib.hid HVl
    clear hb57 hSm hb6 hb7 hm6 hm7 hB5 hN5 hF5 r5 hs5 hs6 hsm hqw
    go_loopw [12,35] (fun v i wr=>∃(k:Nat) (l':List Grp) (L:List Int),i=.int .i64 k∧k≤N∧SliceOf W7.heap.size wr v L∧L.length=k∧W7.heap.size≤wr.heap.size∧Hid (SpSt w ⟨lim,gr,hr,gs,ga,gc⟩ h q (w2.heap.size+1) (w.heap.size+1) w2.heap.size g cg tb l' wr)∧Hid (Valid ⟨lim,gr,hr,l',some ⟨g,0,none⟩,cg⟩)∧Hid (L ++ zy h (N - k) l'=zy h N l)) (fun _ i _=>N - (intOf i).toNat)
    case atStart=>exact ⟨0,l,[],rfl,by omega,World.ownsRow_nil _ _ _ _,rfl,Nat.le_refl _,S,HVl,Lib.hid rfl⟩
    case round =>
     clear S HVl
     obtain ⟨k,l',L,rfl,hk,hown,hLk,hsz,S,HVl,HLL⟩:=hrel
     by_cases hlt:k < N
     ·have hcl:=qbt w ⟨lim,gr,hr,gs,ga,gc⟩ h q (w2.heap.size+1) (w.heap.size+1) w2.heap.size g cg tb l' wr S.out HVl.out (HGl.out.keep S.out.bel) hhr
      have eb:(zb ⟨lim,gr,hr,l',some ⟨g,0,none⟩,cg⟩ h l'.length).1=QZ h l':=bestL_eq ⟨lim,gr,hr,l',some ⟨g,0,none⟩,cg⟩ h
      have hbs:=Za (B:=⟨lim,gr,hr,l',some ⟨g,0,none⟩,cg⟩) (h:=h) l'.length (Nat.le_refl _)
      have hbm:=fun b hb=>HVl.out.bump (b:=b) hb
      unfold BumpP at hcl
      simp only [eb] at hcl hbs
      have hsp:Hid (zy h (N - k) l'=if QZ h l'=-1 then [] else QZ h l' :: zy h (N - (k+1)) (Qv l' (QZ h l'))):=Lib.hid (by
       rw [show N - k=(N - (k+1))+1 by omega];rfl)
      generalize QZ h l'=b at *
      have hk1:(k:Int) < (N:Int):=by omega
      have hk0:(0:Int)≤(k:Int):=Int.natCast_nonneg k
      have hgm:=S.out.gm
      by_cases hb:b=-1
      ·subst hb
       go_wp2_with (go_at_call 81;refine hcl.mono ?_;rintro e w3 ⟨rfl,S3,V,hV1,hV2⟩)
       have hownR:=qak hown hV1 hV2 (by omega) (by omega)
       have hBR:=S3.bel
       have hszR:W7.heap.size≤w3.heap.size:=by have:=hV1.size;have:=hV2.size;omega
       have hLR:zy h N l=L:=by rw [← HLL.out,hsp.out];simp
       have hLN:L.length≤N:=by omega
       clear hown hV1 hV2 S3 S hcl hbs hbm HLL hsp hsz hLk
       go_loopw [12] (fun v wx=>∃j:Nat,SliceOf W7.heap.size wx v (L ++ List.replicate j (-1))∧L.length+j≤N∧Below w.heap.size w wx∧W7.heap.size≤wx.heap.size) (fun v _=>N - lenV v)
       case atStart=>exact ⟨0,by simpa using hownR,by omega,hBR,hszR⟩
       case round =>
        obtain ⟨j,hown,hj,hBr,hsz⟩:=hrel
        have hws:=hBr.size
        obtain ⟨sa,sc,rfl⟩:=slice_form hown
        unfold SliceOf at hown
        have hlen:(L ++ List.replicate j (-1)).length=L.length+j:=by simp
        rw [hlen] at hown ⊢
        have hj0:(0:Int)≤((L.length+j:Nat):Int):=Int.natCast_nonneg _
        by_cases hlt2:L.length+j < N
        ·have hlt3:((L.length+j:Nat):Int) < (N:Int):=by omega
         clear hlen
         generalize hLJ:L.length+j=LJ at *
         go_wp2_with (at_builtin;refine wpList_append_own _ rfl (.tmp 50) (.tmp 51) 33 rfl W7.heap.size 3 i0 (.int .i64 0) 1 8 ((qY _).trans Tryz.underlying33) hi.out hz0 hz1 hz2 rfl (by decide) _ _ _ rfl (hown.alloc _) ⟨wr.heap.size,0,none⟩ 1 1 [.int .i64 (-1)] rfl rfl (cell_one_new _ _ _) (ints_oneCell .i64 [(-1)]) (by unfold maxLen;omega) (by omega) (by simp;omega) ?_;intro v1 w4 hown1 hgrow1 hnil1)
         go_roundw
         case rel =>
          refine ⟨j+1,?_,by omega,?_,?_⟩
          ·have e:L ++ List.replicate (j+1) (-1)=(L ++ List.replicate j (-1)) ++ [-1]:=by rw [List.replicate_succ',List.append_assoc]
           rw [e]
           unfold SliceOf
           simpa [hLJ,← Nat.add_assoc] using hown1
          ·exact (hBr.alloc (by omega) _).grown hgrow1 (by simp;omega) (fun z hz=>by have:=(hown.lt z hz).1;omega)
          ·have:=hgrow1.size;simp at this;omega
         case measure =>
          obtain ⟨sa2,sc2,e2⟩:=slice_form (L:=L ++ List.replicate (j+1) (-1)) (v:=v1) (W:=w4) (base:=W7.heap.size) (by
           have e:L ++ List.replicate (j+1) (-1)=(L ++ List.replicate j (-1)) ++ [-1]:=by rw [List.replicate_succ',List.append_assoc]
           rw [e]
           unfold SliceOf
           simpa [hLJ,← Nat.add_assoc] using hown1)
          simp [lenV,e2];omega
        ·have hlt3:¬ ((L.length+j:Nat):Int) < (N:Int):=by omega
         have hjN:N - L.length=j:=by omega
         go_wp2
         (try rw [Exit.noGoto_ret])
         go_ret2
         refine ⟨?_,hBr⟩
         unfold Qt
         rw [if_pos HC.out.1,if_pos HC.out.2,if_pos (xh.2 ⟨by omega,by omega⟩)]
         refine ⟨_,rfl,?_⟩
         show SliceOf w.heap.size wr _ (qcF (N:Int).toNat (zy (h:Int).toNat (N:Int).toNat gs))
         rw [Int.toNat_natCast,Int.toNat_natCast,HL.out,hLR,qcF,hjN]
         have hx:SliceOf W7.heap.size wr (.slice sa (L.length+j) sc) (L ++ List.replicate j (-1)):=by unfold SliceOf;rw [hlen];exact hown
         exact Zn hx (by omega)
      ·have hbb:(b == -1)=false:=by simp [hb]
       obtain ⟨sa,sc,rfl⟩:=slice_form hown
       unfold SliceOf at hown
       rw [hLk] at hown ⊢
       go_wp2_with (first | (go_at_call 81;refine hcl.mono ?_;rintro e w3 ⟨rfl,S3,V,hV1,hV2⟩;have hszR:W7.heap.size≤w3.heap.size:=(by have:=hV1.size;have:=hV2.size;omega)) | (at_builtin;refine wpList_append_own _ rfl (.tmp 41) (.tmp 43) 33 rfl W7.heap.size 3 i0 (.int .i64 0) 1 8 ((qY _).trans Tryz.underlying33) hi.out hz0 hz1 hz2 rfl (by decide) _ _ _ rfl ((qak (L:=L) (by unfold SliceOf;rw [hLk];exact hown) hV1 hV2 (by omega) (by omega)).alloc _) ⟨w3.heap.size,0,none⟩ 1 1 [.int .i64 b] rfl rfl (cell_one_new _ _ _) (ints_oneCell .i64 [b]) (by unfold maxLen;omega) (by omega) (by simp;omega) ?_;intro v1 w4 hown1 hgrow1 hnil1))
       go_roundw
       case rel =>
        obtain ⟨i,x,rfl,hx,hx7⟩:=hbs.resolve_left hb
        refine ⟨k+1,Qv l' i,L ++ [(i:Int)],rfl,by omega,?_,by simp [hLk],?_,?_,?_,?_⟩
        ·unfold SliceOf
         simpa [hLk] using hown1
        ·have:=hgrow1.size;simp at this;omega
        ·refine Lib.hid ((S3.keep ((Below.refl _ w3).alloc (Nat.le_refl _) _)).grow' hgrow1 (fun z hz=>?_))
         have:=(hown.lt z hz).1
         omega
        ·exact Lib.hid (hbm _ (.inr (.inr ⟨i,x,rfl,hx,hx7⟩)))
        ·exact Lib.hid (by rw [← HLL.out,hsp.out,if_neg hb];simp)
       case measure=>simp [intOf];omega
     ·obtain rfl:N=k:=by omega
      go_wp2
      have hownR:=hown
      have hBR:=S.out.bel
      have hszR:=hsz
      have hLR:zy h N l=L:=by rw [← HLL.out];simp [zy]
      have hLN:L.length≤N:=by omega
      clear hown S HLL hsz hLk
      go_loopw [12] (fun v wx=>∃j:Nat,SliceOf W7.heap.size wx v (L ++ List.replicate j (-1))∧L.length+j≤N∧Below w.heap.size w wx∧W7.heap.size≤wx.heap.size) (fun v _=>N - lenV v)
      case atStart=>exact ⟨0,by simpa using hownR,by omega,hBR,hszR⟩
      case round =>
       obtain ⟨j,hown,hj,hBr,hsz⟩:=hrel
       have hws:=hBr.size
       obtain ⟨sa,sc,rfl⟩:=slice_form hown
       unfold SliceOf at hown
       have hlen:(L ++ List.replicate j (-1)).length=L.length+j:=by simp
       rw [hlen] at hown ⊢
       have hj0:(0:Int)≤((L.length+j:Nat):Int):=Int.natCast_nonneg _
       by_cases hlt2:L.length+j < N
       ·have hlt3:((L.length+j:Nat):Int) < (N:Int):=by omega
        clear hlen
        generalize hLJ:L.length+j=LJ at *
        go_wp2_with (at_builtin;refine wpList_append_own _ rfl (.tmp 50) (.tmp 51) 33 rfl W7.heap.size 3 i0 (.int .i64 0) 1 8 ((qY _).trans Tryz.underlying33) hi.out hz0 hz1 hz2 rfl (by decide) _ _ _ rfl (hown.alloc _) ⟨wr.heap.size,0,none⟩ 1 1 [.int .i64 (-1)] rfl rfl (cell_one_new _ _ _) (ints_oneCell .i64 [(-1)]) (by unfold maxLen;omega) (by omega) (by simp;omega) ?_;intro v1 w4 hown1 hgrow1 hnil1)
        go_roundw
        case rel =>
         refine ⟨j+1,?_,by omega,?_,?_⟩
         ·have e:L ++ List.replicate (j+1) (-1)=(L ++ List.replicate j (-1)) ++ [-1]:=by rw [List.replicate_succ',List.append_assoc]
          rw [e]
          unfold SliceOf
          simpa [hLJ,← Nat.add_assoc] using hown1
         ·exact (hBr.alloc (by omega) _).grown hgrow1 (by simp;omega) (fun z hz=>by have:=(hown.lt z hz).1;omega)
         ·have:=hgrow1.size;simp at this;omega
        case measure =>
         obtain ⟨sa2,sc2,e2⟩:=slice_form (L:=L ++ List.replicate (j+1) (-1)) (v:=v1) (W:=w4) (base:=W7.heap.size) (by
          have e:L ++ List.replicate (j+1) (-1)=(L ++ List.replicate j (-1)) ++ [-1]:=by rw [List.replicate_succ',List.append_assoc]
          rw [e]
          unfold SliceOf
          simpa [hLJ,← Nat.add_assoc] using hown1)
         simp [lenV,e2];omega
       ·have hlt3:¬ ((L.length+j:Nat):Int) < (N:Int):=by omega
        have hjN:N - L.length=j:=by omega
        go_wp2
        (try rw [Exit.noGoto_ret])
        go_ret2
        refine ⟨?_,hBr⟩
        unfold Qt
        rw [if_pos HC.out.1,if_pos HC.out.2,if_pos (xh.2 ⟨by omega,by omega⟩)]
        refine ⟨_,rfl,?_⟩
        show SliceOf w.heap.size wr _ (qcF (N:Int).toNat (zy (h:Int).toNat (N:Int).toNat gs))
        rw [Int.toNat_natCast,Int.toNat_natCast,HL.out,hLR,qcF,hjN]
        have hx:SliceOf W7.heap.size wr (.slice sa (L.length+j) sc) (L ++ List.replicate j (-1)):=by unfold SliceOf;rw [hlen];exact hown
        exact Zn hx (by omega)
   ·have hbt:=fun W=>qU n 0 6 W hnn
    go_wp2
    go_wp2_with (go_at_call 65;(with_reducible refine (hbt _).mono ?_);rintro e w1 ⟨rfl,rfl⟩)
    (try rw [Exit.noGoto_ret]);go_ret2
    refine ⟨?_,hBc⟩
    unfold Qt
    rw [if_pos HC.out.1,if_pos HC.out.2,if_neg (fun e=>hnn (xh.1 e))]
    try rfl
  ·have hb:(a != 0)=true:=bne_iff_ne.2 hz
   have HRR:=Lib.hid (HA.out hz)
   clear hz
   go_wp2
   (try rw [Exit.noGoto_ret]);go_ret2
   exact ⟨HRR.out _ _ rfl,hBc⟩
 case first =>
  go_region_with (first | (go_at_call 75;refine (his _).mono ?_;rintro e w1 ⟨rfl,hB1⟩;have hBw:=bcl (w:=w) (by go_grown) hB1;obtain ⟨hc,hg⟩:=qx hB1;have hz:=hB1.size;(try simp at hz);have hz2:w.heap.size < w1.heap.size:=(by omega);(try have hz5:w.heap.size+1 < w1.heap.size:=(by omega));(try have hz6:w.heap.size+1+1 < w1.heap.size:=(by omega))) | (go_at_call 42;refine (hop _ (by go_grown)).mono ?_;rintro e w2 ⟨rfl,hB2⟩;have hBx:=bcl (w:=w) (by go_grown) hB2;obtain ⟨hc2,hg2⟩:=qx hB2;have hz3:=hB2.size;(try simp at hz3);have hz4:w.heap.size < w2.heap.size:=(by omega);(try have hz7:w.heap.size+1 < w2.heap.size:=(by omega));(try have hz8:w.heap.size+1+1 < w2.heap.size:=(by omega))))
  all_goals
   go_wp2_with fail
   go_meet
   exact ⟨_,by go_cell,(by first | omega | (simp;done) | (simp;omega)),rfl,rfl,(by go_grown),⟨⟨by go_cell,by go_cell,by go_cell,by go_cell,by go_cell⟩,⟨by go_cell,by go_cell,by go_cell,by go_cell,by go_cell⟩,⟨by go_cell,by go_cell,by go_cell,by go_cell,by go_cell⟩,by first | omega | (simp;done) | (simp;omega)⟩⟩
end Go.Proofs.Tryz
