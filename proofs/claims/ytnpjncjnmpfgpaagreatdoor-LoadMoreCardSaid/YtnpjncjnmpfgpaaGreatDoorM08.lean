/-
  Lemmas about the program and the machine (B17 to B17), upon which the last text of this claim rests; no condition.
-/
import Derived.Test.YtnpjncjnmpfgpaaGreatDoorM07
set_option linter.unusedSimpArgs false
set_option linter.unusedVariables false
namespace Go.Proofs.Tryz
open Go Go.Sim Go.Load Go.RowKit
def jG (l:List Grp) (k:Nat) (t:Int):List Grp:=match l[k]? with
 | some x=>l.set k { x with trunks:=t }
 | none=>l
theorem QX {l:List Grp} {k:Nat} {x:Grp} (h:l[k]? = some x) (t:Int):jG l k t=l.set k { x with trunks:=t }:=by
 unfold jG
 rw [h]
theorem zu (l:List Grp) (k:Nat) (t:Int):(jG l k t).length=l.length:=by
 unfold jG
 split <;> simp
theorem qgD {l l':List Grp} (h:zh l l') {k:Nat} {t:Int}:zh (jG l k t) (jG l' k t):=by
 refine ⟨by rw [zu,zu];exact h.1,fun i g g' hg hg'=>?_⟩
 by_cases hk:k < l.length
 ·have e1:=QX (List.getElem?_eq_getElem hk) t
  have e2:=QX (List.getElem?_eq_getElem (show k < l'.length by rw [h.1];exact hk)) t
  rw [e1] at hg
  rw [e2] at hg'
  by_cases e:k=i
  ·subst e
   rw [List.getElem?_set_self hk] at hg
   rw [List.getElem?_set_self (by rw [h.1];exact hk)] at hg'
   cases hg
   cases hg'
   obtain ⟨a,b,c⟩:=h.2 k _ _ (List.getElem?_eq_getElem hk) (List.getElem?_eq_getElem (show k < l'.length by rw [h.1];exact hk))
   exact ⟨a,rfl,c⟩
  ·rw [List.getElem?_set_ne e] at hg hg'
   exact h.2 i g g' hg hg'
 ·have e1:l[k]? = none:=List.getElem?_eq_none (by omega)
  have e2:l'[k]? = none:=List.getElem?_eq_none (by rw [h.1];omega)
  unfold jG at hg hg'
  rw [e1] at hg
  rw [e2] at hg'
  exact h.2 i g g' hg hg'
def ChangeP (base:Nat) (B:Bk) (k:Nat) (t:Int) (W:World) (e:Ending):Prop :=
 ∃g gc l tb,e=.returned (.tuple #[bv { B with gs:=l,ga:=some ⟨g,0,none⟩,gc:=gc },.int .i64 0])∧zh (jG B.gs k t) l∧OwnGs base W g l l.length tb∧l.length≤gc
set_option maxHeartbeats 8000000 in
set_option maxRecDepth 100000 in
theorem qex (B:Bk) (k:Nat) (t:Int) (w:World) (h:BookAt w B) (hG:Globs w) (hc:checkN B=0) (hk:k < B.gs.length) (ht:0≤t∧t≤7):Calls qg 30 #[bv B,.int .i64 k,.int .i64 t] w fun e w'=>ChangeP w.heap.size B k t w' e∧Below w.heap.size w w':=by
 have hop:=fun W (hB:Below w.heap.size w W)=>zW B true W (h.keep hB) (hG.keep hB)
 simp only [jd,if_pos hc,if_true] at hop
 have hV:=qB hc
 have hsm:=h.small
 have hig:=fun W=>QR B (k:Int) W hsm.1
 have hbt:btw (k:Int) 0 ((B.gs.length:Int) - 1)=true:=zq.2 ⟨by omega,by omega⟩
 rw [hbt] at hig
 have hit:=fun W=>zG t W ht
 have hfl:∀g∈B.gs,1≤g.traffic.length:=fun g hg=>by have:=(hV.grp g hg).len;have:=hV.num.2.2.1;omega
 have hown:=fun W (hB:Below w.heap.size w W)=>JL B W (h.keep hB) hV.len1 hfl
 have HS:=Lib.hid hsm
 have HO:=Lib.hid hown
 clear hsm hfl hV hbt hown h hG hc
 obtain ⟨lim,gr,hr,gs,ga,gc⟩:=B
 simp only [bv,bz] at *
 go_enter s30,ntmps30
 go_upto_region 1 with fail
 go_cut [8,9] (fun p al wx=>∃q,p=.pointer (some ⟨q,0,none⟩)∧al=.int .i64 0∧w.heap.size+1 < q∧Five wx (w.heap.size+1) (.int .i64 0) (.int .i64 0) (.int .i64 0) (.int .i64 0) (.slice none 0 0)∧Five wx q (.int .i64 lim.1) (.int .i64 lim.2) (.int .i64 gr) (.int .i64 hr) (.slice ga gs.length gc)∧Below w.heap.size w wx)
 case first =>
  clear HO HS hit
  go_region_with (first | (go_at_call 43;refine (hig _).mono ?_;rintro e w1 ⟨rfl,hB1⟩;have hBw:=bcl (w:=w) (by go_grown) hB1;obtain ⟨hc,hg⟩:=qp hB1;have hz:=hB1.size;(try simp at hz);have hz2:w.heap.size < w1.heap.size:=(by omega);(try have hz5:w.heap.size+1 < w1.heap.size:=(by omega));(try have hz6:w.heap.size+1+1 < w1.heap.size:=(by omega))) | (go_at_call 42;refine (hop _ (by go_grown)).mono ?_;rintro e w2 ⟨rfl,hB2⟩;have hBx:=bcl (w:=w) (by go_grown) hB2;obtain ⟨hc2,hg2⟩:=qp hB2;have hz3:=hB2.size;(try simp at hz3);have hz4:w.heap.size < w2.heap.size:=(by omega);(try have hz7:w.heap.size+1 < w2.heap.size:=(by omega));(try have hz8:w.heap.size+1+1 < w2.heap.size:=(by omega))))
  all_goals
   go_wp2_with fail
   go_meet
   exact ⟨_,rfl,rfl,(by first | omega | (simp;done) | (simp;omega)),⟨⟨by go_cell,by go_cell,by go_cell,by go_cell,by go_cell⟩,⟨by go_cell,by go_cell,by go_cell,by go_cell,by go_cell⟩⟩,⟨⟨by go_cell,by go_cell,by go_cell,by go_cell,by go_cell⟩,⟨by go_cell,by go_cell,by go_cell,by go_cell,by go_cell⟩⟩,(by go_grown)⟩
 case rest =>
  obtain ⟨q,rfl,rfl,hq,hF,hQ,hBc⟩:=hcut
  obtain ⟨WC,rfl⟩:∃W,W=wc:=⟨_,rfl⟩
  clear hop hig
  have hown:=HO.out WC hBc
  obtain ⟨⟨e0,e1,e2,e3,e4⟩,_⟩:=id hQ
  have hql:q < WC.heap.size:=lt_of_cell e0
  go_wp2_with (go_at_call 85;(with_reducible refine (hit _).mono ?_);rintro e w1 ⟨rfl,rfl⟩)
  go_at_call 66
  refine hown.mono ?_
  rintro e w2 ⟨⟨g,cg,l,tb,rfl,hS,hN,hcg⟩,hB2⟩
  have hF:=hF.keep hB2
  have hQ:=hQ.keep hB2
  have hBx:=bcl hBc hB2
  clear hB2 e0 e1 e2 e3 e4 hown hBc
  obtain ⟨⟨e0,e1,e2,e3,e4⟩,⟨k0,k1,k2,k3,k4⟩⟩:=id hQ
  have hgl:=hN.lo
  have hlk:k < l.length:=by rw [hS.1];exact hk
  obtain ⟨x,hx⟩:∃x,l[k]? = some x:=⟨l[k],List.getElem?_eq_getElem hlk⟩
  simp only [bv]
  go_upto_region 7 with fail
  have hN5:=hN.five' rfl hql (v0:=.int .i64 lim.1) (v1:=.int .i64 lim.2) (v2:=.int .i64 gr) (v3:=.int .i64 hr) (v4:=.slice (some ⟨g,0,none⟩) l.length cg)
  have hF5:=hF.other (.int .i64 lim.1) (.int .i64 lim.2) (.int .i64 gr) (.int .i64 hr) (.slice (some ⟨g,0,none⟩) l.length cg) (show w.heap.size+1≠q by omega)
  have hQ5:=hQ.put (.int .i64 lim.1) (.int .i64 lim.2) (.int .i64 gr) (.int .i64 hr) (.slice (some ⟨g,0,none⟩) l.length cg)
  have hB5:=Below.set5 hBx (b:=q) (by omega) (v0:=.int .i64 lim.1) (v1:=.int .i64 lim.2) (v2:=.int .i64 gr) (v3:=.int .i64 hr) (v4:=.slice (some ⟨g,0,none⟩) l.length cg)
  obtain ⟨W5,hW5⟩:∃W5,set5 w2 q (.int .i64 lim.1) (.int .i64 lim.2) (.int .i64 gr) (.int .i64 hr) (.slice (some ⟨g,0,none⟩) l.length cg)=W5:=⟨_,rfl⟩
  rw [hW5] at hN5 hF5 hQ5 hB5
  unfold set5 at hW5
  rw [hW5]
  clear hW5 e0 e1 e2 e3 e4 k0 k1 k2 k3 k4 hF hQ hBx hN
  obtain ⟨⟨e0,e1,e2,e3,e4⟩,_⟩:=id hQ5
  obtain ⟨x0,x1⟩:=hN5.row _ _ (zb l k x hx).2.1
  have hki:(k:Int) < (l.length:Int):=by omega
  have hk0:(0:Int)≤(k:Int):=Int.natCast_nonneg k
  have hl20:l.length≤20:=by rw [hS.1];exact HS.out.1
  have HX:=Lib.hid hx
  have HSS:=Lib.hid hS
  have hgq:g≠q:=by omega
  clear hx hS
  go_upto_region 8 with fail
  have hN6:=hN5.trunk HX.out t
  have hQ6:=hQ5.at (c:=g) (j:=k * 3+1) (v:=.int .i64 t) hgq
  have hF6:=hF5.at (c:=g) (j:=k * 3+1) (v:=.int .i64 t) (show g≠w.heap.size+1 by omega)
  have hB6:=hB5.setCell (p:=⟨g,k * 3+1,none⟩) (show w.heap.size≤g by omega) (.int .i64 t)
  obtain ⟨W6,hW6⟩:∃W6,W5.setCell ⟨g,k * 3+1,none⟩ (.int .i64 t)=W6:=⟨_,rfl⟩
  rw [hW6] at hN6 hQ6 hF6 hB6 ⊢
  clear hW6 hN5 hQ5 hF5 hB5 e0 e1 e2 e3 e4 x0 x1
  obtain ⟨⟨e0,e1,e2,e3,e4⟩,_⟩:=id hQ6
  obtain ⟨⟨c0,c1,c2,c3,c4⟩,⟨f0,f1,f2,f3,f4⟩⟩:=id hF6
  go_wp2
  refine xO results30 zZ zO rfl rfl c0 c1 c2 c3 c4 ⟨?_,Below.set5 hB6 (Nat.le_succ _)⟩
  refine ⟨g,cg,l.set k { x with trunks:=t },tb,(by simp only [bv,List.length_set];rfl),?_,(hN6.five' rfl (show w.heap.size+1 < WC.heap.size by omega)).mono (by omega),by rw [List.length_set];exact hcg⟩
  rw [← QX HX.out t]
  exact qgD HSS.out
end Go.Proofs.Tryz
