/-
  Lemmas about the program and the machine (B25 to C24), upon which the last text of this claim rests; no condition.
-/
import Derived.Test.YtnpjncjnmpfgpaaGreatDoorM08
set_option linter.unusedSimpArgs false
set_option linter.unusedVariables false
namespace Go.Proofs.Tryz
open Go Go.Sim Go.Load Go.RowKit
set_option maxHeartbeats 8000000 in
set_option maxRecDepth 100000 in
theorem Zx (B:Bk) (n t a r:Int) (x0 x1 x2 x3:Int) (xa:Option Addr) (xl xc:Nat) (w:World) (h:BookAt w B) (hG:Globs w) (ho:jd B (btw n 0 ((B.gs.length:Int) - 1))=.tuple #[.agg #[.int .i64 x0,.int .i64 x1,.int .i64 x2,.int .i64 x3,.slice xa xl xc],.int .i64 a]) (hr:a≠0∧r=a∨a=0∧r=1∧¬ (0≤t∧t≤7)):Calls qg 30 #[bv B,.int .i64 n,.int .i64 t] w fun e w'=>e=.returned (.tuple #[bz,.int .i64 r])∧Below w.heap.size w w':=by
 have hop:=fun W (hB:Below w.heap.size w W)=>zW B (btw n 0 ((B.gs.length:Int) - 1)) W (h.keep hB) (hG.keep hB)
 rw [ho] at hop
 have hig:=fun W=>QR B n W h.small.1
 generalize btw n 0 ((B.gs.length:Int) - 1)=tt at *
 have HR:=Lib.hid hr
 clear h hG ho hr
 obtain ⟨lim,gr,hr,gs,ga,gc⟩:=B
 simp only [bv,bz] at *
 go_enter s30,ntmps30
 go_upto_region 1 with fail
 go_cut [8,9] (fun p al wx=>∃q,p=.pointer (some ⟨q,0,none⟩)∧al=.int .i64 a∧w.heap.size+1 < q∧Five wx (w.heap.size+1) (.int .i64 0) (.int .i64 0) (.int .i64 0) (.int .i64 0) (.slice none 0 0)∧Below w.heap.size w wx)
 case first =>
  go_region_with (first | (go_at_call 43;refine (hig _).mono ?_;rintro e w1 ⟨rfl,hB1⟩;have hBw:=bcl (w:=w) (by go_grown) hB1;obtain ⟨hc,hg⟩:=qp hB1;have hz:=hB1.size;(try simp at hz);have hz2:w.heap.size < w1.heap.size:=(by omega);(try have hz5:w.heap.size+1 < w1.heap.size:=(by omega));(try have hz6:w.heap.size+1+1 < w1.heap.size:=(by omega))) | (go_at_call 42;refine (hop _ (by go_grown)).mono ?_;rintro e w2 ⟨rfl,hB2⟩;have hBx:=bcl (w:=w) (by go_grown) hB2;obtain ⟨hc2,hg2⟩:=qp hB2;have hz3:=hB2.size;(try simp at hz3);have hz4:w.heap.size < w2.heap.size:=(by omega);(try have hz7:w.heap.size+1 < w2.heap.size:=(by omega));(try have hz8:w.heap.size+1+1 < w2.heap.size:=(by omega))))
  all_goals
   go_wp2_with fail
   go_meet
   exact ⟨_,rfl,rfl,(by first | omega | (simp;done) | (simp;omega)),⟨⟨by go_cell,by go_cell,by go_cell,by go_cell,by go_cell⟩,⟨by go_cell,by go_cell,by go_cell,by go_cell,by go_cell⟩⟩,(by go_grown)⟩
 case rest =>
  obtain ⟨q,rfl,rfl,hq,hF,hBc⟩:=hcut
  obtain ⟨WC,rfl⟩:∃W,W=wc:=⟨_,rfl⟩
  clear hop hig
  obtain ⟨⟨c0,c1,c2,c3,c4⟩,⟨f0,f1,f2,f3,f4⟩⟩:=id hF
  rcases HR.out with ⟨ha,rfl⟩ | ⟨rfl,rfl,ht⟩
  ·have hab:(r != 0)=true:=bne_iff_ne.2 ha
   go_wp2
   exact xO results30 zZ zO rfl rfl c0 c1 c2 c3 c4 ⟨rfl,Below.set5 hBc (Nat.le_succ _)⟩
  ·have hit:=fun W=>xL t W ht
   go_wp2_with (go_at_call 85;(with_reducible refine (hit _).mono ?_);rintro e w1 ⟨rfl,rfl⟩)
   exact xO results30 zZ zO rfl rfl c0 c1 c2 c3 c4 ⟨rfl,Below.set5 hBc (Nat.le_succ _)⟩
def zX (B:Bk) (n t:Int):Int:=if checkN B=0 then (if btw n 0 ((B.gs.length:Int) - 1) then (if 0≤t∧t≤7 then 0 else 1) else 6) else checkN B
theorem qbi (B:Bk) (n t:Int) (w:World) (h:BookAt w B) (hG:Globs w) (hr:zX B n t≠0):Calls qg 30 #[bv B,.int .i64 n,.int .i64 t] w fun e w'=>e=.returned (.tuple #[bz,.int .i64 (zX B n t)])∧Below w.heap.size w w':=by
 unfold zX at *
 by_cases hc:checkN B=0
 ·rw [if_pos hc] at *
  by_cases hn:btw n 0 ((B.gs.length:Int) - 1)=true
  ·rw [if_pos hn] at *
   by_cases ht:0≤t∧t≤7
   ·rw [if_pos ht] at hr
    exact absurd rfl hr
   ·rw [if_neg ht]
    exact Zx B n t 0 1 _ _ _ _ _ _ _ w h hG (by unfold jd;rw [if_pos hc,hn,if_pos rfl];rfl) (.inr ⟨rfl,rfl,ht⟩)
  ·rw [if_neg hn] at *
   exact Zx B n t 6 6 _ _ _ _ _ _ _ w h hG (by unfold jd;rw [if_pos hc,if_neg hn];rfl) (.inl ⟨by decide,rfl⟩)
 ·rw [if_neg hc] at *
  exact Zx B n t (checkN B) (checkN B) _ _ _ _ _ _ _ w h hG (by unfold jd;rw [if_neg hc];rfl) (.inl ⟨hr,rfl⟩)
end Go.Proofs.Tryz
namespace Go.Proofs.Tryz
open Go Go.Load Go.RowKit
theorem qdf {P:Program} {fn:Func} {R:Ending→World→Prop} {ts:Array Value} {p q r s:Tmp} {w:World} {a b c d:Value} (h:fn.results=#[.tmp p,.tmp q,.tmp r,.tmp s]) (hp:ts.getD p undef=a) (hq:ts.getD q undef=b) (hr:ts.getD r undef=c) (hs:ts.getD s undef=d)
 (hR:R (.returned (.tuple #[a,b,c,d])) w):bodyPost P fn R .ret ⟨ts,[]⟩ w:=by
 refine bodyPost_ret (v:=.tuple #[a,b,c,d]) ?_ rfl hR
 unfold results
 rw [h]
 simp only [List.mapM_toArray,List.mapM_cons,List.mapM_nil,hp,hq,hr,hs,bind_assoc,pure_bind,map_eq_pure_bind,Sem.run_pure]
 rfl
def Qp (B:Bk) (g:Grp):Bool:=(g.traffic.any fun x => !decide (yC x)) || !QQ B g g.trunks.toNat
def yg (B:Bk):Nat→List Grp→Option Nat
 | _,[]=>none
 | i,g :: l=>if Qp B g then some i else yg B (i+1) l
def xA (B:Bk):Nat→Nat→Option (Nat×Nat)
 | 0,_=>none
 | f+1,y=>match yg (za B y) 0 (za B y).gs with
   | some i=>some (y,i)
   | none=>xA B f (y+1)
def yearR:Option (Nat×Nat)→Value
 | some p=>.tuple #[.int .i64 p.1,.int .i64 p.2,.bool true,.int .i64 0]
 | none=>.tuple #[.int .i64 0,.int .i64 0,.bool false,.int .i64 0]
def yearV (B:Bk):Value:=if checkN B=0 then yearR (xA B 7 0) else .tuple #[.int .i64 0,.int .i64 0,.bool false,.int .i64 (checkN B)]
theorem qak {B:Bk} {l:List Grp} {k:Nat} {g:Grp} (h:l[k]? = some g):yg B k (l.drop k)=if Qp B g then some k else yg B (k+1) (l.drop (k+1)):=by
 obtain ⟨hk,rfl⟩:=List.getElem?_eq_some_iff.1 h
 rw [List.drop_eq_getElem_cons hk]
 rfl
theorem qaa (B B':Bk) (g:Grp) (h:B'.lim=B.lim):Qp B' (blank g)=Qp B g:=by
 unfold Qp QQ
 rw [h];rfl
theorem jI (B B':Bk) (h:B'.lim=B.lim):∀(l:List Grp) (i:Nat),yg B' i (l.map blank)=yg B i l
 | [],_=>rfl
 | g :: l,i=>by simp only [List.map_cons,yg,qaa B B' g h,jI B B' h l]
theorem qal {B B':Bk} {l l':List Grp} (h:B'.lim=B.lim) (hs:zh l l'):yg B' 0 l'=yg B 0 l:=by
 rw [← jI B' { B' with gs:=[] } rfl l',← jI B { B' with gs:=[] } h l,ZU hs]
set_option maxHeartbeats 2000000 in
set_option maxRecDepth 100000 in
theorem Year_bad (B:Bk) (w:World) (h:BookAt w B) (hG:Globs w) (hc:checkN B≠0):Calls qg 20 #[bv B] w fun e w'=>e=.returned (.tuple #[.int .i64 0,.int .i64 0,.bool false,.int .i64 (checkN B)])∧Below w.heap.size w w':=by
 have hop:=fun W (hB:Below w.heap.size w W)=>zW B true W (h.keep hB) (hG.keep hB)
 simp only [jd,if_neg hc] at hop
 generalize checkN B=r at *
 have hrb:(r != 0)=true:=by simp [hc]
 obtain ⟨lim,gr,hr,gs,ga,gc⟩:=B
 simp only [bv,bz] at *
 clear h hG hc
 go_enter s20,ntmps20
 go_wp2_with (go_at_call 42;(with_reducible refine (hop _ (by go_grown)).mono ?_);rintro e w1 ⟨rfl,hB1⟩;(first | (replace hB:=bcl (by with_reducible assumption) hB1) | (replace hB:=bcl (by go_grown) hB1) | (have hB:=hB1));(try clear hc hg hz);obtain ⟨hc,hg⟩:=qp hB;have hz:=hB.size;clear hB1;(try simp at hz);(try have hlt0:w.heap.size < w1.heap.size:=by omega))
 have hBw:=bcl (w:=w) (by go_grown) hB
 exact qdf results20 rfl rfl rfl rfl ⟨rfl,hBw.alloc hBw.size _⟩
def YearAt (B:Bk) (y:Nat) (W:World) (l:List Grp) (ga:Option Addr) (gc:Nat):Prop:=zh (za B y).gs l∧BookAt W { B with gs:=l,ga:=ga,gc:=gc }
set_option maxHeartbeats 4000000 in
set_option maxRecDepth 100000 in
theorem Year_ok (B:Bk) (w:World) (h:BookAt w B) (hG:Globs w) (hc:checkN B=0):Calls qg 20 #[bv B] w fun e w'=>e=.returned (yearR (xA B 7 0))∧Below w.heap.size w w':=by
 have hop:=fun W (hB:Below w.heap.size w W)=>zW B true W (h.keep hB) (hG.keep hB)
 simp only [jd,if_pos hc] at hop
 have hV:=qB hc
 have HS:=Lib.hid h.small
 have HV:=Lib.hid hV
 have H:=Lib.hid h
 have hfl:∀g∈B.gs,1≤g.traffic.length:=fun g hg=>by have:=(hV.grp g hg).len;have:=hV.num.2.2.1;omega
 have HF:=Lib.hid hfl
 obtain ⟨R,hR⟩:∃R,xA B 7 0=R:=⟨_,rfl⟩
 rw [hR]
 have HR:=Lib.hid hR
 have hsm:=h.small
 clear hfl hV hR
 obtain ⟨lim,gr,hr,gs,ga,gc⟩:=B
 simp only [bv,bz] at *
 clear h hG hc
 go_enter s20,ntmps20
 go_upto_region 4 with ((go_at_call 42;(with_reducible refine (hop _ (by go_grown)).mono ?_);rintro e w1 ⟨rfl,hB1⟩;(first | (replace hB:=bcl (by with_reducible assumption) hB1) | (replace hB:=bcl (by go_grown) hB1) | (have hB:=hB1));(try clear hc hg hz);obtain ⟨hc,hg⟩:=qp hB;have hz:=hB.size;clear hB1;(try simp at hz);(try have hlt0:w.heap.size < w1.heap.size:=by omega)))
 have hF6:=Five.new w1 (.int .i64 lim.1) (.int .i64 lim.2) (.int .i64 gr) (.int .i64 hr) (.slice ga gs.length gc) 67
 have hBw:=(bcl (w:=w) (by go_grown) hB).alloc (w:=w1) (by omega) (.cells #[.int .i64 lim.1,.int .i64 lim.2,.int .i64 gr,.int .i64 hr,.slice ga gs.length gc] 67)
 obtain ⟨W,hW⟩:∃W,w1.alloc (.cells #[.int .i64 lim.1,.int .i64 lim.2,.int .i64 gr,.int .i64 hr,.slice ga gs.length gc] 67)=W:=⟨_,rfl⟩
 obtain ⟨q,hq⟩:∃q,w1.heap.size=q:=⟨_,rfl⟩
 have hwq:w.heap.size < q:=by omega
 rw [hq] at hF6
 rw [hW] at hF6 hBw ⊢
 rw [hq]
 clear hW hc hg hB hz hq
 go_wp2
 have hY:YearAt ⟨lim,gr,hr,gs,ga,gc⟩ 0 W gs ga gc:=⟨.refl _,H.out.keep hBw⟩
 go_loopw [18] (fun i wr=>∃y:Nat,i=.int .i64 y∧y≤7∧Below w.heap.size w wr∧Hid (xA ⟨lim,gr,hr,gs,ga,gc⟩ (7 - y) y=R)∧∃l a c,Hid (YearAt ⟨lim,gr,hr,gs,ga,gc⟩ y wr l a c)∧Hid (Five wr q (.int .i64 lim.1) (.int .i64 lim.2) (.int .i64 gr) (.int .i64 hr) (.slice a l.length c))) (fun i _=>7 - (intOf i).toNat)
 case atStart=>exact ⟨0,rfl,by omega,hBw,HR,gs,ga,gc,Lib.hid hY,Lib.hid hF6⟩
 case round =>
  clear hF6 hBw hY hop
  obtain ⟨y,rfl,hy,hBr,HY,l,a,c,hA,hF⟩:=hrel
  obtain ⟨⟨e0,e1,e2,e3,e4⟩,⟨k0,k1,k2,k3,k4⟩⟩:=id hF.out
  have hll:l.length=gs.length:=by rw [hA.out.1.1,Qs]
  obtain ⟨b,o,hla,hcs⟩:=hA.out.2.row (by rw [hll];exact HV.out.len1)
  simp only at hla
  subst hla
  have hl20:l.length≤20:=by rw [hll];exact HS.out.1
  have HLL:=Lib.hid hll
  clear hll
  by_cases hlt:y < 7
  ·have hy1:(y:Int) < 7:=by omega
   have hy0:(0:Int)≤(y:Int):=Int.natCast_nonneg y
   have HYs:Hid (xA ⟨lim,gr,hr,gs,ga,gc⟩ (7 - y) y=match yg ⟨lim,gr,hr,l,some ⟨b,o,none⟩,c⟩ 0 l with | some i=>some (y,i) | none=>xA ⟨lim,gr,hr,gs,ga,gc⟩ (7 - (y+1)) (y+1)):=Lib.hid (by
    rw [show 7 - y=(7 - (y+1))+1 by omega]
    show (match yg (za ⟨lim,gr,hr,gs,ga,gc⟩ y) 0 (za ⟨lim,gr,hr,gs,ga,gc⟩ y).gs with | some i=>some (y,i) | none=>xA ⟨lim,gr,hr,gs,ga,gc⟩ (7 - (y+1)) (y+1))=_
    rw [← qal (B':=⟨lim,gr,hr,l,some ⟨b,o,none⟩,c⟩) (by rw [(jv _ y).1]) hA.out.1])
   have HC:=Lib.hid hcs
   have hlb:b < wr.heap.size:=lt_of_cell (hcs 0 _ (List.getElem?_eq_getElem (show 0 < l.length by rw [HLL.out];exact HV.out.len1))).1
   clear hcs
   go_wp2
   obtain ⟨V,hV⟩:∃V,V=wr:=⟨_,rfl⟩
   subst hV
   go_loopw [25] (fun i w3=>∃j:Nat,i=.int .i64 j∧j≤l.length∧Below V.heap.size V w3∧Hid (yg ⟨lim,gr,hr,l,some ⟨b,o,none⟩,c⟩ 0 l=yg ⟨lim,gr,hr,l,some ⟨b,o,none⟩,c⟩ j (l.drop j))) (fun i _=>l.length - (intOf i).toNat)
   case atStart=>exact ⟨0,rfl,by omega,.refl _ _,Lib.hid rfl⟩
   case round =>
    obtain ⟨j,rfl,hj,hB3,HJ⟩:=hrel
    have hBr3:=bcl hBr hB3
    have e0:=qb _ hB3 e0
    have e1:=qb _ hB3 e1
    have e2:=qb _ hB3 e2
    have e3:=qb _ hB3 e3
    have e4:=qb _ hB3 e4
    have k0:=qf _ hB3 (hF.out.c.1) k0
    have k1:=qf _ hB3 (hF.out.c.2.1) k1
    have k2:=qf _ hB3 (hF.out.c.2.2.1) k2
    have k3:=qf _ hB3 (hF.out.c.2.2.2.1) k3
    have k4:=qf _ hB3 (hF.out.c.2.2.2.2) k4
    have hq3:q < wr.heap.size:=lt_of_cell e0
    have hVs:=hB3.size
    by_cases hjl:j < l.length
    ·obtain ⟨x,hx⟩:∃x,l[j]? = some x:=⟨l[j],by simp [hjl]⟩
     obtain ⟨c0,c1,c2⟩:=HC.out j x hx
     have c0:=qb _ hB3 c0
     have c1:=qb _ hB3 c1
     have c2:=qb _ hB3 c2
     have hm:x∈l:=List.mem_of_getElem? hx
     have hsx:=(hA.out.2.small.2 x hm).1
     have htf:=fun (W:World) (hB:Below V.heap.size V W)=>xm 70 #[] (fun args w=>c70 args w) (fun x => !decide (yC x)) x.traffic x.ta x.tc (by omega) W ((hA.out.2.traf x hm).keep hB) (fun x _ W' _=>qeF x W')
     have hT7:0≤x.trunks∧x.trunks≤7:=by
      have hi:=(List.getElem?_eq_some_iff.1 hx).1
      obtain ⟨z,hz⟩:∃z,(za ⟨lim,gr,hr,gs,ga,gc⟩ y).gs[j]? = some z:=⟨(za ⟨lim,gr,hr,gs,ga,gc⟩ y).gs[j]'(by rw [← hA.out.1.1];exact hi),by simp⟩
      obtain ⟨u,hu,_,hu2,_⟩:=jr _ y j z hz
      have hgu:=HV.out.grp u (List.mem_of_getElem? hu)
      rw [(hA.out.1.2 j z x hz hx).2.1,hu2]
      exact ⟨hgu.tr0,hgu.tr7⟩
     obtain ⟨T,hT⟩:=Int.eq_ofNat_of_zero_le hT7.1
     have hT8:T≤7:=by omega
     have hfi:=fun (W:World) (hB:Below V.heap.size V W) (htr:∀z∈x.traffic,yC z)=>Jz ⟨lim,gr,hr,l,some ⟨b,o,none⟩,c⟩ j T x hx hT8 W ⟨hA.out.2.keep hB,HV.out.num.1⟩ htr
     have hbd:Hid (yg ⟨lim,gr,hr,l,some ⟨b,o,none⟩,c⟩ j (l.drop j)=if Qp ⟨lim,gr,hr,l,some ⟨b,o,none⟩,c⟩ x then some j else yg ⟨lim,gr,hr,l,some ⟨b,o,none⟩,c⟩ (j+1) (l.drop (j+1))):=Lib.hid (qak hx)
     rw [hT] at c1
     have hYB:Hid (Qp ⟨lim,gr,hr,l,some ⟨b,o,none⟩,c⟩ x=((x.traffic.any fun x => !decide (yC x)) || !QQ ⟨lim,gr,hr,l,some ⟨b,o,none⟩,c⟩ x T)):=Lib.hid (by unfold Qp;rw [hT];rfl)
     have hj20:(j:Int) < (l.length:Int):=by omega
     have hj0:(0:Int)≤(j:Int):=Int.natCast_nonneg j
     clear hx hm hT7 hT hT8 hsx
     simp only [bv] at hfi
     by_cases ha:(x.traffic.any fun x => !decide (yC x))=true
     ·rw [ha] at htf
      have HA:=Lib.hid ha
      have htr:True:=trivial
      clear ha hfi
      go_wp2_with (first | (go_at_call 69;(with_reducible refine (htf _ (by go_grown)).mono ?_);rintro e w1 ⟨rfl,hB1⟩;have hBx:=Below.call (B:=V.heap.size) (w:=V) (by go_grown) hB1 (Nat.le_refl _);obtain ⟨hc,hg⟩:=qp hB1;have hs1:=hB1.size;(simp at hs1);have hq4:q < wr.heap.size+1:=(by omega)) | (go_at_call 56;(with_reducible refine (hfi _ (by first | exact hBx | go_grown) htr).mono ?_);rintro e w2 ⟨rfl,hB2⟩;have hBy:=Below.call (B:=V.heap.size) (w:=V) (by first | exact hBx | go_grown) hB2 (Nat.le_refl _)))
      have hRR:R=some (y,j):=by rw [← HY.out,HYs.out,HJ.out,hbd.out,hYB.out,HA.out];rfl
      exact qdf results20 rfl rfl rfl rfl ⟨by rw [hRR];rfl,bcl hBr hBx⟩
     ·have ha:(x.traffic.any fun x => !decide (yC x))=false:=by simpa using ha
      have htr:∀z∈x.traffic,yC z:=fun z hz=>by
       have:=List.any_eq_false.1 ha z hz
       simpa using this
      rw [ha] at htf
      have HA:=Lib.hid ha
      clear ha
      cases hb:QQ ⟨lim,gr,hr,l,some ⟨b,o,none⟩,c⟩ x T with
      | false =>
        rw [hb] at hfi
        have HB:=Lib.hid hb
        clear hb
        go_wp2_with (first | (go_at_call 69;(with_reducible refine (htf _ (by go_grown)).mono ?_);rintro e w1 ⟨rfl,hB1⟩;have hBx:=Below.call (B:=V.heap.size) (w:=V) (by go_grown) hB1 (Nat.le_refl _);obtain ⟨hc,hg⟩:=qp hB1;have hs1:=hB1.size;(simp at hs1);have hq4:q < wr.heap.size+1:=(by omega)) | (go_at_call 56;(with_reducible refine (hfi _ (by first | exact hBx | go_grown) htr).mono ?_);rintro e w2 ⟨rfl,hB2⟩;have hBy:=Below.call (B:=V.heap.size) (w:=V) (by first | exact hBx | go_grown) hB2 (Nat.le_refl _)))
        have hRR:R=some (y,j):=by rw [← HY.out,HYs.out,HJ.out,hbd.out,hYB.out,HA.out,HB.out];rfl
        exact qdf results20 rfl rfl rfl rfl ⟨by rw [hRR];rfl,bcl hBr hBy⟩
      | true =>
        rw [hb] at hfi
        have HB:=Lib.hid hb
        clear hb
        go_wp2_with (first | (go_at_call 69;(with_reducible refine (htf _ (by go_grown)).mono ?_);rintro e w1 ⟨rfl,hB1⟩;have hBx:=Below.call (B:=V.heap.size) (w:=V) (by go_grown) hB1 (Nat.le_refl _);obtain ⟨hc,hg⟩:=qp hB1;have hs1:=hB1.size;(simp at hs1);have hq4:q < wr.heap.size+1:=(by omega)) | (go_at_call 56;(with_reducible refine (hfi _ (by first | exact hBx | go_grown) htr).mono ?_);rintro e w2 ⟨rfl,hB2⟩;have hBy:=Below.call (B:=V.heap.size) (w:=V) (by first | exact hBx | go_grown) hB2 (Nat.le_refl _)))
        go_roundw
        case rel=>exact ⟨j+1,rfl,by omega,hBy,Lib.hid (HJ.out.trans (by rw [hbd.out,hYB.out,HA.out,HB.out];rfl))⟩
        case measure=>simp [intOf];omega
    ·obtain rfl:j=l.length:=by omega
     have hgr:=qaA ⟨lim,gr,hr,l,some ⟨b,o,none⟩,c⟩ wr (hA.out.2.keep hB3) (by rw [HLL.out];exact HV.out.len1) (fun x hx=>by
      obtain ⟨i,hi,rfl⟩:=List.getElem_of_mem hx
      obtain ⟨z,hz⟩:∃z,(za ⟨lim,gr,hr,gs,ga,gc⟩ y).gs[i]? = some z:=⟨(za ⟨lim,gr,hr,gs,ga,gc⟩ y).gs[i]'(by rw [← hA.out.1.1];exact hi),by simp⟩
      obtain ⟨u,hu,_,_,hu3⟩:=jr _ y i z hz
      have hs:=(hA.out.1.2 i z l[i] hz (by simp)).2.2
      rw [hs,hu3]
      exact HF.out u (List.mem_of_getElem? hu)) HV.out.num.2.1.1 (by have:=HV.out.num.2.1.2;simp only at this ⊢;omega)
     simp only [bv] at hgr
     have HNo:Hid (xA ⟨lim,gr,hr,gs,ga,gc⟩ (7 - (y+1)) (y+1)=R):=Lib.hid (by
      rw [← HY.out,HYs.out,HJ.out,List.drop_length];rfl)
     go_wp2
     go_at_call 67
     refine hgr.mono ?_
     rintro e w4 ⟨⟨g1,gc1,l1,tb1,rfl,hS1,hO1,hc1⟩,hB4⟩
     have hF4:=(hF.out.keep hB3).keep hB4
     have hBx:=bcl hBr3 hB4
     clear e0 e1 e2 e3 e4 k0 k1 k2 k3 k4 hgr hB4
     obtain ⟨⟨e0,e1,e2,e3,e4⟩,⟨k0,k1,k2,k3,k4⟩⟩:=id hF4
     simp only [bv,YS]
     go_wp2
     go_roundw
     case rel =>
      refine ⟨y+1,rfl,by omega,Below.set5 hBx (by omega),HNo,l1,some ⟨g1,0,none⟩,gc1,Lib.hid ⟨?_,?_⟩,Lib.hid (hF4.put _ _ _ _ _)⟩
      ·have h2:=(Xh (r:=gr) hA.out.1).trans hS1
       have e:=(jv ⟨lim,gr,hr,gs,ga,gc⟩ y).2.1
       simp only [za,YS,e]
       exact h2
      ·refine QO (B:=YS ⟨lim,gr,hr,l,some ⟨b,o,none⟩,c⟩) hS1 (hO1.five' rfl hq3) hc1 ⟨by simpa [YS] using hl20,fun z hz=>?_⟩
       obtain ⟨u,hu,rfl⟩:=List.mem_map.1 hz
       have:=hA.out.2.small.2 u hu
       simpa [Yn] using this
     case measure=>simp [intOf];omega
  ·obtain rfl:y=7:=by omega
   have hRR:R=none:=by rw [← HY.out];rfl
   subst hRR
   go_wp2
   exact qdf results20 rfl rfl rfl rfl ⟨rfl,hBr⟩
theorem Year_any (B:Bk) (w:World) (h:BookAt w B) (hG:Globs w):Calls qg 20 #[bv B] w fun e w'=>e=.returned (yearV B)∧Below w.heap.size w w':=by
 unfold yearV
 by_cases hc:checkN B=0
 ·rw [if_pos hc];exact Year_ok B w h hG hc
 ·rw [if_neg hc];exact Year_bad B w h hG hc
structure UpX (x y:Int×Int):Prop where
 bot:y.2=x.2
 b1:1≤x.2∧x.2≤4
 pos:0≤x.1
 up:x.1≤y.1∨12 < y.1
theorem qbp {B:Bk} (hc:checkN B=0):∀(i:Nat) (g:Grp),B.gs[i]? = some g→qZ B.gs B.hours i g=0:=by
 have hV:=qB hc
 unfold checkN at hc
 rw [show zx B=0 from if_pos hV.num,if_pos rfl] at hc
 unfold yF at hc
 rw [if_pos ⟨hV.len1,hV.len4⟩] at hc
 intro i g hg
 have:=xH hc i g hg
 rwa [Nat.zero_add] at this
theorem qbJ {gs:List Grp} {hours:Int} {i:Nat} {g:Grp} (hG:GoodGrp hours g) (hN:((gs.take i).any fun o=>o.name.toList == g.name.toList)=false):qZ gs hours i g=0:=by
 unfold qZ
 have ha:(g.traffic.any fun x => !decide (yC x))=false:=by
  rw [List.any_eq_false]
  intro x hx
  simp [hG.traf x hx]
 rw [if_neg (by rw [hG.name];decide),if_neg (by rw [hN];decide),if_neg (by rw [zq.2 ⟨hG.tr0,hG.tr7⟩];decide),if_neg (fun h=>h hG.len),if_neg (by rw [ha];decide)]
theorem Zk {f:Nat→Grp→Int}:∀(l:List Grp) (k:Nat),(∀(i:Nat) (g:Grp),l[i]? = some g→f (k+i) g=0)→qP f k l=0
 | [],_,_=>rfl
 | x :: l,k,h=>by
   unfold qP
   rw [if_neg (by have:=h 0 x rfl;rw [Nat.add_zero] at this;simp [this])]
   exact Zk l (k+1) fun i g hg=>by have:=h (i+1) g (by simpa using hg);rwa [show k+(i+1)=k+1+i by omega] at this
theorem check_of {B:Bk} (hn:Jj B) (h1:1≤B.gs.length) (h4:B.gs.length≤4) (h:∀(i:Nat) (g:Grp),B.gs[i]? = some g→qZ B.gs B.hours i g=0):checkN B=0:=by
 unfold checkN
 rw [show zx B=0 from if_pos hn,if_pos rfl]
 unfold yF
 rw [if_pos ⟨h1,h4⟩]
 exact Zk _ _ fun i g hg=>by rw [Nat.zero_add];exact h i g hg
def yB (w:World) (v:Value) (L:List Int):Prop:=∃a c,v=.slice a L.length c∧(1≤L.length→∃b,a=some ⟨b,0,none⟩∧∀i x,L[i]? = some x→w.cell? ⟨b,i,none⟩=some (.int .i64 x))
theorem yB.keep {w w1:World} {v:Value} {L:List Int} (h:yB w v L) (hB:Below w.heap.size w w1):yB w1 v L:=by
 obtain ⟨a,c,e,f⟩:=h
 exact ⟨a,c,e,fun hl=>let ⟨b,e1,e2⟩:=f hl;⟨b,e1,fun i x hx=>qb _ hB (e2 i x hx)⟩⟩
def qcX:List Int→List Int→Bool
 | [],[]=>false
 | [],_ :: _=>true
 | _ :: _,[]=>false
 | a :: A,b :: B=>if a≠b then decide (a < b) else qcX A B
theorem qaJ:∀A B:List Int,(!qcX A B && !qcX B A)=decide (A=B)
 | [],[]=>rfl
 | [],_ :: _=>rfl
 | _ :: _,[]=>rfl
 | a :: A,b :: B=>by
   simp only [qcX]
   by_cases e:a=b
   ·subst e
    simp only [ne_eq,not_true_eq_false,if_false,qaJ A B]
    simp
   ·have e':b≠a:=Ne.symm e
    simp only [ne_eq,e,e',not_false_eq_true,if_true]
    have h1:(a :: A=b :: B)↔False:=by simp [e]
    rw [decide_eq_false (by simp [e]:¬ (a :: A=b :: B))]
    rcases Int.lt_or_gt_of_ne e with h | h
    ·rw [decide_eq_true h];rfl
    ·rw [decide_eq_true (show b < a from h)];simp
theorem qfz {A B:List Int} {k:Nat} {a b:Int} (ha:A[k]? = some a) (hb:B[k]? = some b):qcX (A.drop k) (B.drop k)=if a≠b then decide (a < b) else qcX (A.drop (k+1)) (B.drop (k+1)):=by
 obtain ⟨h1,rfl⟩:=List.getElem?_eq_some_iff.1 ha
 obtain ⟨h2,rfl⟩:=List.getElem?_eq_some_iff.1 hb
 rw [List.drop_eq_getElem_cons h1,List.drop_eq_getElem_cons h2]
 rfl
theorem lexN_end {A B:List Int} {k:Nat} (h:A.length≤k∨B.length≤k) (hk1:k≤A.length) (hk2:k≤B.length):qcX (A.drop k) (B.drop k)=decide (A.length < B.length):=by
 by_cases h1:A.length≤k
 ·rw [List.drop_eq_nil_of_le h1]
  by_cases h2:B.length≤k
  ·rw [List.drop_eq_nil_of_le h2,decide_eq_false (by omega)];rfl
  ·rw [List.drop_eq_getElem_cons (show k < B.length by omega),decide_eq_true (by omega)];rfl
 ·rw [List.drop_eq_getElem_cons (show k < A.length by omega),List.drop_eq_nil_of_le (show B.length≤k by omega),decide_eq_false (by omega)];rfl
set_option maxHeartbeats 2000000 in
set_option maxRecDepth 100000 in
theorem XD (va vb:Value) (A B:List Int) (w:World) (hA:yB w va A) (hB:yB w vb B) (h1:A.length≤100) (h2:B.length≤100):Calls qg 58 #[va,vb] w fun e w'=>e=.returned (.bool (qcX A B))∧Below w.heap.size w w':=by
 obtain ⟨aa,ca,rfl,ha⟩:=hA
 obtain ⟨ab,cb,rfl,hb⟩:=hB
 have HA:=Lib.hid ha
 have HB:=Lib.hid hb
 have HD:=Lib.hid fun (k:Nat) (a b:Int) (ha:A[k]? = some a) (hb:B[k]? = some b)=>qfz ha hb
 have HE:=Lib.hid fun (k:Nat) (h:A.length≤k∨B.length≤k) (hk1:k≤A.length) (hk2:k≤B.length)=>lexN_end h hk1 hk2
 have H0:Hid (qcX A B=qcX (A.drop 0) (B.drop 0)):=Lib.hid rfl
 clear ha hb
 go_enter s58,ntmps58
 go_wp2
 go_loopw [5] (fun i wr=>∃k:Nat,i=.int .i64 k∧k≤A.length∧k≤B.length∧Below w.heap.size w wr∧Hid (qcX A B=qcX (A.drop k) (B.drop k))) (fun i _=>A.length - (intOf i).toNat)
 case atStart=>exact ⟨0,rfl,by omega,by omega,.refl _ _,H0⟩
 case round =>
  obtain ⟨k,rfl,hk1,hk2,hBr,HL⟩:=hrel
  have hk0:(0:Int)≤(k:Int):=Int.natCast_nonneg k
  by_cases hlt:k < A.length∧k < B.length
  ·obtain ⟨l1,l2⟩:=hlt
   obtain ⟨a,ha⟩:∃a,A[k]? = some a:=⟨A[k],by simp [l1]⟩
   obtain ⟨b,hb⟩:∃b,B[k]? = some b:=⟨B[k],by simp [l2]⟩
   obtain ⟨ba,rfl,ra⟩:=HA.out (by omega)
   obtain ⟨bb,rfl,rb⟩:=HB.out (by omega)
   have c0:=qb _ hBr (ra k a ha)
   have c1:=qb _ hBr (rb k b hb)
   have hd:=Lib.hid (HD.out k a b ha hb)
   have i1:(k:Int) < (A.length:Int):=by omega
   have i2:(k:Int) < (B.length:Int):=by omega
   clear ra rb ha hb
   by_cases e:a=b
   ·subst e
    go_wp2
    go_quiet (fail)
    go_wp2
    go_roundw
    case rel=>exact ⟨k+1,rfl,by omega,by omega,below_drewN hBr _,Lib.hid (HL.out.trans (by rw [hd.out,if_neg (by simp)]))⟩
    case measure=>simp [intOf];omega
   ·have hab:(a == b)=false:=by simp [e]
    have hab':(a != b)=true:=by simp [e]
    have hL:Hid (qcX A B=decide (a < b)):=Lib.hid (HL.out.trans (by rw [hd.out,if_pos e]))
    clear e
    go_wp2
    go_quiet (fail)
    go_wp2
    go_quiet (fail)
    go_wp2
    go_ret
    exact ⟨by rw [hL.out];rfl,below_drewN (below_drewN hBr _) _⟩
  ·have hE:=Lib.hid (HL.out.trans (HE.out k (by omega) hk1 hk2))
   by_cases l1:k < A.length
   ·have i1:(k:Int) < (A.length:Int):=by omega
    have i2:¬ (k:Int) < (B.length:Int):=by omega
    go_wp2
    go_ret
    refine ⟨?_,hBr⟩
    rw [hE.out];simp
   ·have i1:¬ (k:Int) < (A.length:Int):=by omega
    go_wp2
    go_ret
    refine ⟨?_,hBr⟩
    rw [hE.out];simp
set_option maxHeartbeats 1000000 in
theorem ZY (va vb:Value) (A B:List Int) (w:World) (hA:yB w va A) (hB:yB w vb B) (h1:A.length≤100) (h2:B.length≤100):Calls qg 14 #[va,vb] w fun e w'=>e=.returned (.bool (decide (A=B)))∧Below w.heap.size w w':=by
 have hl1:=fun W (h:Below w.heap.size w W)=>XD va vb A B W (hA.keep h) (hB.keep h) h1 h2
 have hl2:=fun W (h:Below w.heap.size w W)=>XD vb va B A W (hB.keep h) (hA.keep h) h2 h1
 have hb:=Lib.hid (qaJ A B)
 obtain ⟨aa,ca,rfl,_⟩:=hA
 obtain ⟨ab,cb,rfl,_⟩:=hB
 cases h3:qcX A B with
 | true =>
   simp only [h3] at hl1 hb
   go_enter s14,ntmps14
   go_wp2_with (go_at_call 58;refine (hl1 _ (by go_grown)).mono ?_;rintro e w1 ⟨rfl,hB1⟩)
   go_ret
   exact ⟨by rw [← hb.out];rfl,hB1⟩
 | false =>
   simp only [h3] at hl1 hb
   go_enter s14,ntmps14
   go_wp2_with (first | (go_at_call 58;(with_reducible refine (hl1 _ (.refl _ _)).mono ?_);rintro e w1 ⟨rfl,hB1⟩) | (go_at_call 58;(with_reducible refine (hl2 _ (by assumption)).mono ?_);rintro e w2 ⟨rfl,hB2⟩))
   go_ret
   exact ⟨by rw [← hb.out];rfl,bcl hB1 hB2⟩
theorem JI (va vb:Value) (A B:List Int) (w:World) (hA:yB w va A) (hB:yB w vb B) (h1:A.length≤100) (h2:B.length≤100):Calls qg 40 #[va,vb] w fun e w'=>e=.returned (.bool (decide (A=B)))∧Below w.heap.size w w':=by
 have hs:=ZY va vb A B w hA hB h1 h2
 obtain ⟨aa,ca,rfl,_⟩:=hA
 obtain ⟨ab,cb,rfl,_⟩:=hB
 go_enter s40,ntmps40
 go_wp2_with (go_at_call 14;refine hs.mono ?_;rintro e w1 ⟨rfl,hB1⟩)
 go_ret
 exact ⟨rfl,hB1⟩
theorem yH {base:Nat} {W:World} {v:Value} {L:List Int} (h:SliceOf base W v L):yB W v L:=by
 have hform:∃a c,v=.slice a L.length c:=by
  obtain ⟨_,⟨h1,h2⟩ | ⟨g,cap,cur,rfl,_⟩⟩:=h
  ·exact ⟨none,0,by rw [h1];simp_all⟩
  ·exact ⟨_,_,rfl⟩
 obtain ⟨a,c,rfl⟩:=hform
 refine ⟨a,c,rfl,fun hl=>?_⟩
 cases a with
 | none =>
   obtain ⟨_,⟨h1,h2⟩ | ⟨g,cap,cur,e,_⟩⟩:=h
   ·exact absurd h2 (by omega)
   ·cases e
 | some ad =>
   obtain ⟨_,⟨h1,h2⟩ | ⟨g,cap,cur,e,hb,hg,hn,_,hs,ht⟩⟩:=h
   ·cases h1
   ·obtain rfl:ad=⟨g,0,none⟩:=by injection e with e1;exact Option.some.inj e1
    refine ⟨g,rfl,fun i x hx=>?_⟩
    have hx':(L.map (Value.int .i64))[i]? = some (.int .i64 x):=by rw [List.getElem?_map,hx];rfl
    rw [← ht,List.getElem?_take] at hx'
    split at hx'
    ·have hu:cur[i]? = some (.int .i64 x):=by simpa using hx'
     unfold World.cell?;rw [hg];simp [hu]
    ·cases hx'
def qgz (t b n:Nat):Bool :=
 Ju (qW t b n) && Ju (qW t b (n+1)) && decide (okS (qW t b n) 268435456) && decide (okS (qW t b (n+1)) 8589934592) && !above (qW t b (n+1)) (qW t b n) &&
 decide (((qW t b n).1 * (qW t b (n+1)).2 < 4611686018427387904∧(qW t b n).2 * (qW t b (n+1)).2 < 4611686018427387904)∧(qW t b (n+1)).1 * (qW t b n).2≤(qW t b n).1 * (qW t b (n+1)).2) &&
 (XU t b n == jD (low (t:Int) (b:Int)) n) && Ju (XU t b n)
theorem save_all:((List.range 13).all fun t=>(List.range 4).all fun b=>(List.range 7).all fun n=>qgz t (b+1) n)=true:=by decide +kernel
theorem ZV {t b n:Nat} (ht:t≤12) (hb:1≤b∧b≤4) (hn:n≤6):qgz t b n=true:=by
 have h:=save_all
 rw [List.all_eq_true] at h
 have h:=h t (List.mem_range.2 (by omega))
 rw [List.all_eq_true] at h
 have h:=h (b - 1) (List.mem_range.2 (by omega))
 rw [List.all_eq_true] at h
 have h:=h n (List.mem_range.2 (by omega))
 rwa [show b - 1+1=b by omega] at h
theorem qdv {p q:Int×Int} (h:above p q=true):above q p=false:=by
 unfold above at *
 rw [decide_eq_true_eq] at h
 rw [decide_eq_false_iff_not]
 omega
theorem qeG {p q r:Int×Int} (hp:0 < p.2) (hq:0 < q.2) (hr:0 < r.2) (h1:above p q=true) (h2:above r q=false):above p r=true:=by
 cases h:above p r with
 | true=>rfl
 | false =>
   have h3:=YE hp hr hq h h2
   rw [h3] at h1
   cases h1
structure BestP (B:Bk) (h k:Nat) (r:Int×(Int×Int)):Prop where
 none:r.1=-1→r.2=(0,1)∧∀j g,j < k→B.gs[j]? = some g→g.trunks=7
 some:r.1≠-1→∃i g,i < k∧r.1=(i:Int)∧B.gs[i]? = some g∧g.trunks≠7∧r.2=qo g h ∧
  ∀j g',j < k→B.gs[j]? = some g'→g'.trunks≠7→above (qo g' h) r.2=false∧(j < i→above r.2 (qo g' h)=true)
theorem ym {B:Bk} (hV:Valid B) {h:Nat} (hh:(h:Int) < B.hours) {j:Nat} {g:Grp} (hg:B.gs[j]? = some g) (h7:g.trunks≠7):0 < (qo g h).2:=by
 have hG:=hV.grp g (List.mem_of_getElem? hg)
 have hl:h < g.traffic.length:=by have:=hG.len;omega
 have ht:=hG.traf g.traffic[h] (List.getElem_mem _)
 have hd:g.traffic.getD h (0,1)=g.traffic[h]:=by rw [List.getD_eq_getElem?_getD,List.getElem?_eq_getElem hl];rfl
 obtain ⟨k1,k2,k3,k4⟩:=jy ht.1.1 ht.1.2 ht.2.1 ht.2.2
 have t7:=hG.tr7
 have t0:=hG.tr0
 unfold qo
 rw [hd]
 have:=(jM k1 k2 k3 k4 (T:=g.trunks.toNat) (by omega)).2.2.1
 omega
theorem Jn {B:Bk} (hV:Valid B) {h:Nat} (hh:(h:Int) < B.hours):∀k,k≤B.gs.length→BestP B h k (qF B h k)
 | 0,_=>⟨fun _=>⟨rfl,fun j g hj=>absurd hj (Nat.not_lt_zero _)⟩,fun e=>absurd rfl e⟩
 | k+1,hk=>by
   have ih:=Jn hV hh k (by omega)
   obtain ⟨g,hg⟩:∃g,B.gs[k]? = some g:=⟨B.gs[k]'(by omega),List.getElem?_eq_getElem (by omega)⟩
   simp only [qF,hg]
   have last:∀{j:Nat} {g':Grp},j < k+1→B.gs[j]? = some g'→(j < k∧B.gs[j]? = some g')∨(j=k∧g'=g):=fun hj hg'=>by
    rcases Nat.lt_succ_iff_lt_or_eq.1 hj with q | rfl
    ·exact .inl ⟨q,hg'⟩
    ·rw [hg] at hg';cases hg';exact .inr ⟨rfl,rfl⟩
   by_cases h7:g.trunks=7
   ·rw [if_pos h7]
    refine ⟨fun e=>⟨(ih.none e).1,fun j g' hj hg'=>?_⟩,fun e=>?_⟩
    ·rcases last hj hg' with ⟨q,hq⟩ | ⟨rfl,rfl⟩
     ·exact (ih.none e).2 j g' q hq
     ·exact h7
    ·obtain ⟨i,gi,hi,e1,hgi,n7,e2,hall⟩:=ih.some e
     refine ⟨i,gi,by omega,e1,hgi,n7,e2,fun j g' hj hg' n7'=>?_⟩
     rcases last hj hg' with ⟨q,hq⟩ | ⟨rfl,rfl⟩
     ·exact hall j g' q hq n7'
     ·exact absurd h7 n7'
   ·rw [if_neg h7]
    have pk:=ym hV hh hg h7
    by_cases hc:(qF B h k).1=-1∨above (qo g h) (qF B h k).2=true
    ·rw [if_pos hc]
     refine ⟨fun e=>absurd e (by simp only;omega),fun _=>⟨k,g,Nat.lt_succ_self k,rfl,hg,h7,rfl,fun j g' hj hg' n7'=>?_⟩⟩
     simp only
     rcases last hj hg' with ⟨q,hq⟩ | ⟨rfl,rfl⟩
     ·by_cases e:(qF B h k).1=-1
      ·exact absurd ((ih.none e).2 j g' q hq) n7'
      ·obtain ⟨i,gi,hi,e1,hgi,n7,e2,hall⟩:=ih.some e
       have ha:=hc.resolve_left e
       have pj:=ym hV hh hq n7'
       have pi:=ym hV hh hgi n7
       rw [← e2] at pi
       have h1:=(hall j g' q hq n7').1
       have h2:=qeG pk pi pj ha h1
       exact ⟨qdv h2,fun _=>h2⟩
     ·refine ⟨?_,fun q=>absurd q (Nat.lt_irrefl _)⟩
      unfold above
      rw [decide_eq_false_iff_not]
      omega
    ·rw [if_neg hc]
     have hn:(qF B h k).1≠-1:=fun e=>hc (.inl e)
     refine ⟨fun e=>absurd e hn,fun e=>?_⟩
     obtain ⟨i,gi,hi,e1,hgi,n7,e2,hall⟩:=ih.some e
     refine ⟨i,gi,by omega,e1,hgi,n7,e2,fun j g' hj hg' n7'=>?_⟩
     rcases last hj hg' with ⟨q,hq⟩ | ⟨rfl,rfl⟩
     ·exact hall j g' q hq n7'
     ·refine ⟨?_,fun q=>by omega⟩
      cases hx:above (qo g' h) (qF B h j).2 with
      | false=>rfl
      | true=>exact absurd (.inr hx) hc
theorem grp_fair {B:Bk} (hV:Valid B) {h:Nat} (hh:(h:Int) < B.hours) {j:Nat} {g:Grp} (hg:B.gs[j]? = some g) (h7:g.trunks≠7):Ju (qo g h)=true∧0≤(qo g h).1∧(qo g h).1 < 4611686018427387904∧1≤(qo g h).2∧(qo g h).2 < 4611686018427387904:=by
 have hG:=hV.grp g (List.mem_of_getElem? hg)
 have hl:h < g.traffic.length:=by have:=hG.len;omega
 have ht:=hG.traf g.traffic[h] (List.getElem_mem _)
 have hd:g.traffic.getD h (0,1)=g.traffic[h]:=by rw [List.getD_eq_getElem?_getD,List.getElem?_eq_getElem hl];rfl
 obtain ⟨k1,k2,k3,k4⟩:=jy ht.1.1 ht.1.2 ht.2.1 ht.2.2
 have t7:=hG.tr7
 have t0:=hG.tr0
 have hb:=jM k1 k2 k3 k4 (T:=g.trunks.toNat) (by omega)
 unfold qo
 rw [hd]
 refine ⟨?_,hb⟩
 generalize g.traffic[h]=x at *
 obtain ⟨x1,x2⟩:=x
 obtain ⟨⟨a1,a2⟩,a3,a4⟩:=ht
 obtain ⟨t,rfl⟩:=Int.eq_ofNat_of_zero_le a1
 obtain ⟨c,rfl⟩:=Int.eq_ofNat_of_zero_le (show 0≤x2 by simp only at a3;omega)
 simp only at a2 a3 a4
 have hf:=ZV (t:=t) (b:=c) (n:=g.trunks.toNat) (by omega) ⟨by omega,by omega⟩ (by omega)
 unfold qgz at hf
 simp only [Bool.and_eq_true,decide_eq_true_eq,Bool.not_eq_true',beq_iff_eq] at hf
 rw [← hf.1.2]
 exact hf.2
def yA (g:Grp) (j k:Nat):Int×Int:=if j < k then (match g.traffic[j]? with | some x=>qN (low x.1 x.2) g.trunks.toNat | none=>(0,0)) else (0,0)
theorem qel (w:World):(isAgg 119).run qg w=.ok true w:=(zK _ _).trans (Tryz.isAgg119 w)
theorem qcl (w:World):(Go.sizeOf 119).run qg w=.ok 6 w:=(yx _ _).trans (Tryz.sizeOf119 w)
theorem qbL {g:Grp} {j k:Nat} (h:j≠k):yA g j (k+1)=yA g j k:=by
 unfold yA
 by_cases a:j < k
 ·rw [if_pos a,if_pos (by omega)]
 ·rw [if_neg a,if_neg (by omega)]
theorem qdM {g:Grp} {k:Nat} {x:Int×Int} (h:g.traffic[k]? = some x):yA g k (k+1)=qN (low x.1 x.2) g.trunks.toNat:=by
 unfold yA;rw [if_pos (by omega),h]
theorem qfn {g:Grp} {j:Nat} (h:g.traffic.length≤3):yA g j 3=yA g j g.traffic.length:=by
 unfold yA
 by_cases a:j < g.traffic.length
 ·rw [if_pos a,if_pos (by omega)]
 ·rw [if_neg a,List.getElem?_eq_none (by omega)];split <;> rfl
def hv (f:Nat→Int×Int):Value:=.agg #[.int .i64 (f 0).1,.int .i64 (f 0).2,.int .i64 (f 1).1,.int .i64 (f 1).2,.int .i64 (f 2).1,.int .i64 (f 2).2]
def ArrAt (W:World) (ab:Nat) (f:Nat→Int×Int):Prop:=∀j,j < 3→W.cell? ⟨ab,j * 2,none⟩=some (.int .i64 (f j).1)∧W.cell? ⟨ab,j * 2+1,none⟩=some (.int .i64 (f j).2)∧W.frozen? ⟨ab,j * 2,none⟩=false∧W.frozen? ⟨ab,j * 2+1,none⟩=false
structure But2 (W0:World) (ab k:Nat) (W:World):Prop where
 size:W0.heap.size≤W.heap.size
 cell:∀p v,W0.cell? p=some v→p≠⟨ab,k * 2,none⟩→p≠⟨ab,k * 2+1,none⟩→W.cell? p=some v
 fz:∀p v,W0.cell? p=some v→W0.frozen? p=false→W.frozen? p=false
 there:∀p v,W0.cell? p=some v→(W.cell? p).isSome=true
theorem But2.refl (W0:World) (ab k:Nat):But2 W0 ab k W0:=⟨Nat.le_refl _,fun _ _ h _ _=>h,fun _ _ _ h=>h,fun _ _ h=>qx h⟩
theorem But2.call {W0 W w1:World} {ab k:Nat} (h:But2 W0 ab k W) (hB:Below W.heap.size W w1):But2 W0 ab k w1 :=
 ⟨Nat.le_trans h.size hB.size,fun p v a b c=>qb _ hB (h.cell p v a b c),fun p v a b=>by
   obtain ⟨u,hu⟩:=Option.isSome_iff_exists.1 (h.there p v a)
   exact qf _ hB hu (h.fz p v a b),fun p v a=>by
   obtain ⟨u,hu⟩:=Option.isSome_iff_exists.1 (h.there p v a)
   exact qx (qb _ hB hu)⟩
theorem But2.put {W0 W:World} {ab k:Nat} (u v:Value) (h:But2 W0 ab k W):But2 W0 ab k ((W.setCell ⟨ab,k * 2,none⟩ u).setCell ⟨ab,k * 2+1,none⟩ v) :=
 ⟨by simpa using h.size,fun p x a b c=>qc (Ne.symm c) (qc (Ne.symm b) (h.cell p x a b c)),fun p x a b=>by simpa using h.fz p x a b,fun p x a=>qy (qy (h.there p x a))⟩
abbrev Zc (w W0:World) (hb xb ab T:Nat) (x:Int×Int) (k:Nat) (W:World):Prop :=
 W.cell? ⟨xb,0,none⟩=some (.int .i64 x.1)∧W.cell? ⟨xb,1,none⟩=some (.int .i64 x.2)∧W.cell? ⟨hb,1,none⟩=some (.int .i64 T)∧W.cell? ⟨ab,k * 2,none⟩=some (atD W ⟨ab,k * 2,none⟩)∧W.cell? ⟨ab,k * 2+1,none⟩=some (atD W ⟨ab,k * 2+1,none⟩) ∧
  W.frozen? ⟨ab,k * 2,none⟩=false∧W.frozen? ⟨ab,k * 2+1,none⟩=false∧Below w.heap.size w W∧But2 W0 ab k W
theorem Zc.call {w W0 W w1:World} {hb xb ab T:Nat} {x:Int×Int} {k:Nat} (h:Zc w W0 hb xb ab T x k W) (hB:Below W.heap.size W w1):Zc w W0 hb xb ab T x k w1:=by
 obtain ⟨a,b,c,d,e,f,g,i,j⟩:=h
 exact ⟨qb _ hB a,qb _ hB b,qb _ hB c,qK (qx (qb _ hB d)),qK (qx (qb _ hB e)),qf _ hB d f,qf _ hB e g,bcl i hB,j.call hB⟩
theorem Zc.put {w W0 W:World} {hb xb ab T:Nat} {x:Int×Int} {k:Nat} (u v:Value) (h:Zc w W0 hb xb ab T x k W) (h1:ab≠xb) (h2:ab≠hb) (h3:w.heap.size≤ab):Zc w W0 hb xb ab T x k ((W.setCell ⟨ab,k * 2,none⟩ u).setCell ⟨ab,k * 2+1,none⟩ v):=by
 obtain ⟨a,b,c,d,e,f,g,i,j⟩:=h
 have n1:∀p q,(⟨ab,p,none⟩:Addr)≠⟨xb,q,none⟩:=fun p q h=>h1 (congrArg Addr.block h)
 have n2:∀p q,(⟨ab,p,none⟩:Addr)≠⟨hb,q,none⟩:=fun p q h=>h2 (congrArg Addr.block h)
 exact ⟨qc (n1 _ _) (qc (n1 _ _) a),qc (n1 _ _) (qc (n1 _ _) b),qc (n2 _ _) (qc (n2 _ _) c),qK (qy (qy (qx d))),qK (qy (qy (qx e))),by simpa using f,by simpa using g,(i.setCell h3 _).setCell h3 _,j.put u v⟩
set_option maxHeartbeats 4000000 in
set_option maxRecDepth 100000 in
theorem qfo (B:Bk) (i:Nat) (g:Grp) (hg:B.gs[i]? = some g) (w:World) (h:BookAt w B) (hG:GoodGrp B.hours g) (hh:B.hours≤3) :
 Calls qg 83 #[bv B,.int .i64 i] w fun e w'=>e=.returned (hv fun j=>yA g j 3)∧Below w.heap.size w w':=by
 obtain ⟨hi,rfl⟩:=List.getElem?_eq_some_iff.1 hg
 obtain ⟨b,o,hga,hc⟩:=h.row (by omega)
 obtain ⟨c0,c1,c2⟩:=hc i _ hg
 have hlen:=hG.len
 generalize hgg:B.gs[i]=g at *
 have hm:g∈B.gs:=List.mem_of_getElem? hg
 have HF:=Lib.hid (h.traf g hm)
 have HT:=Lib.hid hG.traf
 obtain ⟨T,hT⟩:=Int.eq_ofNat_of_zero_le hG.tr0
 have hT7:T≤7:=by have:=hG.tr7;omega
 rw [hT] at c1
 have HTT:=Lib.hid hT
 obtain ⟨lim,gr,hr,gs,ga,gc⟩:=B
 simp only at hga hlen hh hi
 subst hga
 simp only [bv]
 have hlb:b < w.heap.size:=lt_of_cell c0
 have hlb2:b < w.heap.size+1:=by omega
 have hlb3:b < w.heap.size+1+1:=by omega
 have hl3:g.traffic.length≤3:=by omega
 have HO:=Lib.hid fun (j k:Nat) (h:j≠k)=>qbL (g:=g) h
 have HH:=Lib.hid fun (k:Nat) (x:Int×Int) (h:g.traffic[k]? = some x)=>qdM h
 have HE:=Lib.hid fun (j:Nat)=>qfn (g:=g) (j:=j) hl3
 have HZ:Hid (∀j,yA g j 0=(0,0)):=Lib.hid fun j=>by simp [yA]
 rw [hT] at HH
 obtain ⟨N,hN⟩:∃N,N=yA g:=⟨_,rfl⟩
 simp only [← hN] at HO HH HE HZ ⊢
 clear hN hT hG hc hg hgg hm h
 go_enter s83,ntmps83
 go_wp2
 obtain ⟨W,hW⟩:∃W,(((w.alloc (Obj.cells #[.int .i64 lim.1,.int .i64 lim.2,.int .i64 gr,.int .i64 hr,.slice (some ⟨b,o,none⟩) gs.length gc] 67)).alloc (Obj.cells #[.int .i64 0,.int .i64 0,.int .i64 0,.int .i64 0,.int .i64 0,.int .i64 0] 119)).alloc (Obj.cells #[.int .i64 0,.int .i64 0,.int .i64 0,.int .i64 0,.int .i64 0,.int .i64 0] 119)).alloc (Obj.cells #[.string g.name,.int .i64 T,.slice g.ta g.traffic.length g.tc] 56)=W:=⟨_,rfl⟩
 have hRes:ArrAt W (w.heap.size+1) (fun _=>(0,0)):=fun j hj=>by
  subst hW
  rcases (show j=0∨j=1∨j=2 by omega) with rfl | rfl | rfl
  ·exact ⟨by go_cell,by go_cell,by go_cell,by go_cell⟩
  ·exact ⟨by go_cell,by go_cell,by go_cell,by go_cell⟩
  ·exact ⟨by go_cell,by go_cell,by go_cell,by go_cell⟩
 have t1:W.cell? ⟨w.heap.size+1+1+1,1,none⟩=some (.int .i64 T):=by subst hW;go_cell
 have hArr:ArrAt W (w.heap.size+1+1) (fun j=>N j 0):=fun j hj=>by
  simp only [HZ.out]
  subst hW
  rcases (show j=0∨j=1∨j=2 by omega) with rfl | rfl | rfl
  ·exact ⟨by go_cell,by go_cell,by go_cell,by go_cell⟩
  ·exact ⟨by go_cell,by go_cell,by go_cell,by go_cell⟩
  ·exact ⟨by go_cell,by go_cell,by go_cell,by go_cell⟩
 have hBW:Below w.heap.size w W:=by subst hW;go_grown
 have hsW:W.heap.size=w.heap.size+4:=by subst hW;simp
 rw [hW]
 clear hW
 go_loopw [18] (fun i wr=>∃k:Nat,i=.int .i64 k∧k≤g.traffic.length∧Below w.heap.size w wr∧w.heap.size+4≤wr.heap.size∧wr.cell? ⟨w.heap.size+1+1+1,1,none⟩=some (.int .i64 T)∧Hid (ArrAt wr (w.heap.size+1+1) (fun j=>N j k))∧Hid (ArrAt wr (w.heap.size+1) (fun _=>(0,0)))) (fun i _=>g.traffic.length - (intOf i).toNat)
 case atStart=>exact ⟨0,rfl,by omega,hBW,by omega,t1,Lib.hid hArr,Lib.hid hRes⟩
 case round =>
  clear t1 hArr hRes hBW hsW
  obtain ⟨k,rfl,hk,hBr,hsz,t1,HArr,HRes⟩:=hrel
  have s1:w.heap.size+1 < wr.heap.size:=by omega
  have s2:w.heap.size+1+1 < wr.heap.size:=by omega
  have s3:w.heap.size+1+1+1 < wr.heap.size:=by omega
  by_cases hlt:k < g.traffic.length
  ·obtain ⟨x,hx⟩:∃x,g.traffic[k]? = some x:=⟨g.traffic[k],by simp [hlt]⟩
   have hx2:=HT.out x (List.mem_of_getElem? hx)
   obtain ⟨tb,t0,hta,hpa⟩:=HF.out (by omega)
   have hta':=hta
   obtain ⟨e0,e1⟩:=hpa k x hx
   have e0:=qb _ hBr e0
   have e1:=qb _ hBr e1
   obtain ⟨a0,a1,a2,a3⟩:=HArr.out k (by omega)
   obtain ⟨k1,k2,k3,k4⟩:=jy hx2.1.1 hx2.1.2 hx2.2.1 hx2.2.2
   have hof:=fun W=>Xa x W hx2.1.1 (by have:=hx2.2.1;omega) (by have:=hx2.1.2;omega) (by have:=hx2.2.2;omega)
   have hlo:=fun W=>Qv T (low x.1 x.2) k1 k2 k3 k4 hT7 W
   have hth:=HH.out k x hx
   rw [Int.toNat_natCast] at hth
   generalize qN (low x.1 x.2) T=r at *
   generalize low x.1 x.2=y at *
   have HN:=Lib.hid hth
   have hkk:(k:Int) < 3:=by omega
   have hk0:(0:Int)≤(k:Int):=Int.natCast_nonneg k
   simp only [fv] at hof hlo
   rw [hta]
   clear hth hx hx2 hpa k1 k2 k3 k4 hta
   have hX:Zc w (wr.alloc (.cells #[.int .i64 x.1,.int .i64 x.2] 23)).drew (w.heap.size+1+1+1) wr.heap.size (w.heap.size+1+1) T x k (wr.alloc (.cells #[.int .i64 x.1,.int .i64 x.2] 23)).drew :=
    ⟨by go_cell,by go_cell,qi t1,qK (qx (qi a0)),qK (qx (qi a1)),qm a0 a2,qm a1 a3,(hBr.alloc (by omega) _).drew,.refl _ _ _⟩
   go_wp2
   go_region_held3 (fun w'=>w'.cell? ⟨wr.heap.size,0,none⟩=some (.int .i64 x.1)∧w'.cell? ⟨wr.heap.size,1,none⟩=some (.int .i64 x.2)∧w'.cell? ⟨w.heap.size+1+1+1,1,none⟩=some (.int .i64 T)∧w'.cell? ⟨w.heap.size+1+1,k * 2,none⟩=some (atD w' ⟨w.heap.size+1+1,k * 2,none⟩)∧w'.cell? ⟨w.heap.size+1+1,k * 2+1,none⟩=some (atD w' ⟨w.heap.size+1+1,k * 2+1,none⟩)∧w'.frozen? ⟨w.heap.size+1+1,k * 2,none⟩=false∧w'.frozen? ⟨w.heap.size+1+1,k * 2+1,none⟩=false∧Below w.heap.size w w'∧But2 (wr.alloc (.cells #[.int .i64 x.1,.int .i64 x.2] 23)).drew (w.heap.size+1+1) k w')
    (first | exact hX | ((with_reducible refine Zc.call ?_ hB);assumption) | ((with_reducible refine Zc.put _ _ ?_ ?_ ?_ ?_);assumption;omega;omega;omega))
    (first | (go_at_call 46;refine (hof _).mono ?_;rintro e w1 ⟨rfl,hB⟩) | (go_at_call 88;refine (hlo _).mono ?_;rintro e w1 ⟨rfl,hB⟩))
   rename_i hH
   obtain ⟨_,_,_,q0,q1,q2,q3,q4,q5⟩:=hH
   go_wp2
   go_roundw
   case rel =>
    have hcells:∀p v,wr.cell? p=some v→p≠⟨w.heap.size+1+1,k * 2,none⟩→p≠⟨w.heap.size+1+1,k * 2+1,none⟩→_:=fun p v hp h1 h2=>q5.cell p v (qi hp) h1 h2
    refine ⟨k+1,rfl,by omega,q4,?_,hcells _ _ t1 (by simp) (by simp),Lib.hid fun j hj=>?_,Lib.hid fun j hj=>?_⟩
    ·have:=q5.size;simp at this ⊢;omega
    ·obtain ⟨b0,b1,b2,b3⟩:=HArr.out j hj
     by_cases e:j=k
     ·subst e
      simp only [HN.out]
      refine ⟨qc (by simp) (zi (zk (zk (qx q0)))),zi (zk (qx q1)),q2,q3⟩
     ·simp only [HO.out j k e]
      exact ⟨hcells _ _ b0 (by simp <;> omega) (by simp <;> omega),hcells _ _ b1 (by simp <;> omega) (by simp <;> omega),q5.fz _ _ (qi b0) (qm b0 b2),q5.fz _ _ (qi b1) (qm b1 b3)⟩
    ·obtain ⟨b0,b1,b2,b3⟩:=HRes.out j hj
     exact ⟨hcells _ _ b0 (by simp) (by simp),hcells _ _ b1 (by simp) (by simp),q5.fz _ _ (qi b0) (qm b0 b2),q5.fz _ _ (qi b1) (qm b1 b3)⟩
   case measure=>simp [intOf];omega
  ·obtain rfl:k=g.traffic.length:=by omega
   have e0:=(HArr.out 0 (by omega)).1
   have e1:=(HArr.out 0 (by omega)).2.1
   have e2:=(HArr.out 1 (by omega)).1
   have e3:=(HArr.out 1 (by omega)).2.1
   have e4:=(HArr.out 2 (by omega)).1
   have e5:=(HArr.out 2 (by omega)).2.1
   obtain ⟨r0,r1,f0,f1⟩:=HRes.out 0 (by omega)
   obtain ⟨r2,r3,f2,f3⟩:=HRes.out 1 (by omega)
   obtain ⟨r4,r5,f4,f5⟩:=HRes.out 2 (by omega)
   simp only [Nat.zero_mul,Nat.one_mul,Nat.reduceMul,Nat.reduceAdd,Nat.zero_add] at e0 e1 e2 e3 e4 e5 r0 r1 r2 r3 r4 r5 f0 f1 f2 f3 f4 f5
   have HR:Hid (hv (fun j=>N j 3)=.agg #[.int .i64 (N 0 g.traffic.length).1,.int .i64 (N 0 g.traffic.length).2,.int .i64 (N 1 g.traffic.length).1,.int .i64 (N 1 g.traffic.length).2,.int .i64 (N 2 g.traffic.length).1,.int .i64 (N 2 g.traffic.length).2]):=Lib.hid (by simp only [hv,HE.out])
   go_wp2
   exact ret_c6 results83 qel qcl rfl r0 r1 r2 r3 r4 r5 ⟨by rw [HR.out],Below.set6 hBr (Nat.le_succ _)⟩
end Go.Proofs.Tryz
