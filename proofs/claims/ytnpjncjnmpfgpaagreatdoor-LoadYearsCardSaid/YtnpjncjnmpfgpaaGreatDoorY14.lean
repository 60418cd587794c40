/-
  Lemmas about the program and the machine (C37 to C38), upon which the last text of this claim rests; no condition.
-/
import Derived.Test.YtnpjncjnmpfgpaaGreatDoorY08
set_option linter.unusedSimpArgs false
set_option linter.unusedVariables false
namespace Go.Proofs.Tryz
open Go Go.Load Go.RowKit Go.Maps
def BumpP (w:World) (B:Bk) (h q mc hc m g gc:Nat) (tb:Nat→Nat) (l:List Grp) (W:World) (e:Ending) (W1:World):Prop :=
 e=.returned (.int .i64 (zh { B with gs:=l,ga:=some ⟨g,0,none⟩,gc:=gc } h l.length).1)∧SpSt w B h q mc hc m g gc tb (QC l (zh { B with gs:=l,ga:=some ⟨g,0,none⟩,gc:=gc } h l.length).1) W1∧∃V,W.grownBy V (some m)∧V.grownBy W1 (some g)
theorem grown_at {W:World} {g j:Nat} {v:Value}:W.grownBy (W.setCell ⟨g,j,none⟩ v) (some g) :=
 ⟨rfl,rfl,rfl,by simp,fun k _ hr=>Below.heap_setCell _ _ _ _ (by simpa using hr)⟩
set_option maxHeartbeats 4000000 in
set_option maxRecDepth 100000 in
theorem qbD (w:World) (B:Bk) (h q mc hc m g gc:Nat) (tb:Nat→Nat) (l:List Grp) (W:World) (s:SpSt w B h q mc hc m g gc tb l W) (hV:Valid { B with gs:=l,ga:=some ⟨g,0,none⟩,gc:=gc }) (hG:Globs W) (hh:(h:Int) < B.hours) :
 Calls qf 81 #[.pointer (some ⟨q,0,none⟩),.pointer (some ⟨mc,0,none⟩),.pointer (some ⟨hc,0,none⟩)] W (BumpP w B h q mc hc m g gc tb l W):=by
 have hbe:=qbV { B with gs:=l,ga:=some ⟨g,0,none⟩,gc:=gc } m h W s.book hV hG s.map hh
 have hbs:=Zi (B:={ B with gs:=l,ga:=some ⟨g,0,none⟩,gc:=gc }) (h:=h) l.length (Nat.le_refl _)
 have HT:=Lib.hid fun (i:Nat) (x:Grp) (hx:l[i]? = some x)=>hV.grp x (List.mem_of_getElem? hx)
 unfold BumpP
 simp only at hbe
 generalize zh { B with gs:=l,ga:=some ⟨g,0,none⟩,gc:=gc } h l.length=r at *
 have hq:=s.mp
 have hp:=s.hp
 have hm:=s.map.lt
 obtain ⟨⟨e0,e1,e2,e3,e4⟩,⟨k0,k1,k2,k3,k4⟩⟩:=id s.box
 have h1:=s.own.lo
 have h2:=s.gm
 have h4:=s.hq
 have h5:=s.mm
 have hqn:q≠m:=by omega
 have hS:=Lib.hid s
 clear hV hG hh s
 obtain ⟨lim,gr,hr,gs,ga,gc0⟩:=B
 simp only [bestV,fv,bv] at *
 by_cases hb:r.1=-1
 ·rw [hb] at hbe ⊢
  clear hbs
  go_enter s81,ntmps81
  go_wp2_with (go_at_call 76;refine hbe.mono ?_;rintro e w1 ⟨rfl,hO⟩)
  go_ret
  refine ⟨rfl,?_,w1.alloc (.cells #[.int .i64 r.2.1,.int .i64 r.2.2] 72),?_,?_⟩
  ·have e:QC l (-1)=l:=if_pos rfl
   rw [e]
   exact (hS.out.one hO).keep ((Below.refl _ w1).alloc (Nat.le_refl _) _)
  ·exact zM hO.2 (zi ((Below.refl _ w1).alloc (Nat.le_refl _) _))
  ·exact zi (Below.refl _ _)
 ·obtain ⟨i,x,hi,hx,hx7⟩:=hbs.resolve_left hb
  have hgi:=HT.out i x hx
  rw [hi] at hbe ⊢
  have hbn:((i:Int) != -1)=true:=bne_iff_ne.2 (by omega)
  have hil:i < l.length:=(List.getElem?_eq_some_iff.1 hx).1
  have hi0:(0:Int)≤(i:Int):=Int.natCast_nonneg i
  have hi1:(i:Int) < (l.length:Int):=by omega
  have hl20:=hS.out.small.1
  have ht0:=hgi.tr0
  have ht7:=hgi.tr7
  have HX:=Lib.hid hx
  clear hbs hb hx hgi hx7
  go_enter s81,ntmps81
  go_wp2_with (go_at_call 76;refine hbe.mono ?_;rintro e w1 ⟨rfl,hO⟩;have S1:=hS.out.one hO;obtain ⟨⟨e0,e1,e2,e3,e4⟩,_⟩:=id S1.box;obtain ⟨x0,x1⟩:=S1.own.row _ _ (zq l i x HX.out).2.1;have hg1:=S1.own.hi;have hq1:q < w1.heap.size:=lt_of_cell e0;have S1:=Lib.hid S1)
  go_ret
  have e:QC l (i:Int)=l.set i { x with trunks:=x.trunks+1 }:=by
   unfold QC
   rw [if_neg (by omega),Int.toNat_natCast,HX.out]
  refine ⟨rfl,?_,w1,hO.2,?_⟩
  ·rw [e]
   exact (S1.out.trunk HX.out _).keep ((Below.refl _ _).alloc (Nat.le_refl _) _)
  ·exact zM grown_at (zi ((Below.refl _ _).alloc (Nat.le_refl _) _))
theorem qbT {B B':Bk} {h:Nat} (e:B'.gs=B.gs):∀k,zh B' h k=zh B h k
 | 0=>rfl
 | k+1=>by simp only [zh,e,qbT e k]
theorem Yq {B B':Bk} {h:Nat} (e:B'.gs=B.gs.map blank):∀k,zh B' h k=zh B h k
 | 0=>rfl
 | k+1=>by
   simp only [zh,e,Yq e k,List.getElem?_map]
   cases hk:B.gs[k]? with
   | none=>rfl
   | some g=>rfl
def Zh (h:Nat) (l:List Grp):Int:=(zh ⟨(0,0),0,0,l,none,0⟩ h l.length).1
theorem bestL_eq (B:Bk) (h:Nat):(zh B h B.gs.length).1=Zh h B.gs:=by
 unfold Zh
 rw [qbT (B:=B) (B':=⟨(0,0),0,0,B.gs,none,0⟩) rfl]
def zx (h:Nat):Nat→List Grp→List Int
 | 0,_=>[]
 | n+1,l=>if Zh h l=-1 then [] else Zh h l :: zx h n (QC l (Zh h l))
theorem qaN (h:Nat) (l:List Grp):Zh h (l.map blank)=Zh h l:=by
 unfold Zh
 rw [List.length_map,Yq (B:=⟨(0,0),0,0,l,none,0⟩) rfl]
theorem qaP (l:List Grp) (b:Int):QC (l.map blank) b=(QC l b).map blank:=by
 unfold QC
 by_cases e:b=-1
 ·rw [if_pos e,if_pos e]
 ·rw [if_neg e,if_neg e,List.getElem?_map]
  cases h:l[b.toNat]? with
  | none=>rfl
  | some x=>simp [blank,List.map_set]
theorem jw (h:Nat):∀(n:Nat) (l:List Grp),zx h n (l.map blank)=zx h n l
 | 0,_=>rfl
 | n+1,l=>by simp only [zx,qaN,qaP,jw h n]
theorem qaw {h n:Nat} {l l':List Grp} (hs:qM l l'):zx h n l'=zx h n l:=by
 rw [← jw h n l',ZA hs,jw]
def qcQ (n:Nat) (L:List Int):List Int:=L ++ List.replicate (n - L.length) (-1)
theorem Valid.bump {B:Bk} (hV:Valid B) {b:Int} (hb:b=(zh B 0 0).1∨b=-1∨∃(i:Nat) (x:Grp),b=i∧B.gs[i]? = some x∧x.trunks≠7):Valid { B with gs:=QC B.gs b }:=by
 have key:∀(i:Nat) (x:Grp),B.gs[i]? = some x→x.trunks≠7→Valid { B with gs:=B.gs.set i { x with trunks:=x.trunks+1 } }:=fun i x hx h7=>by
  refine ⟨hV.num,by simpa using hV.len1,by simpa using hV.len4,fun y hy=>?_⟩
  rcases List.mem_or_eq_of_mem_set hy with hy | rfl
  ·exact hV.grp y hy
  ·have hg:=hV.grp x (List.mem_of_getElem? hx)
   have h1:=hg.tr0
   have h2:=hg.tr7
   exact ⟨hg.name,by show (0:Int)≤x.trunks+1;omega,by show x.trunks+1≤(7:Int);omega,hg.len,hg.traf⟩
 have e1:QC B.gs (-1)=B.gs:=if_pos rfl
 rcases hb with rfl | rfl | ⟨i,x,rfl,hx,h7⟩
 ·show Valid { B with gs:=QC B.gs (-1) }
  rw [e1];exact hV
 ·rw [e1];exact hV
 ·have e:QC B.gs (i:Int)=B.gs.set i { x with trunks:=x.trunks+1 }:=by
   unfold QC
   rw [if_neg (by omega),Int.toNat_natCast,hx]
  rw [e];exact key i x hx h7
theorem Valid.move {B:Bk} {l:List Grp} (hV:Valid B) (hs:qM B.gs l) (ga:Option Addr) (gc:Nat):Valid { B with gs:=l,ga:=ga,gc:=gc }:=by
 refine ⟨hV.num,by show 1≤l.length;rw [hs.1];exact hV.len1,by show l.length≤4;rw [hs.1];exact hV.len4,fun y hy=>?_⟩
 obtain ⟨i,hi,rfl⟩:=List.getElem_of_mem hy
 obtain ⟨x,hx⟩:∃x,B.gs[i]? = some x:=⟨B.gs[i]'(by rw [← hs.1];exact hi),by simp⟩
 obtain ⟨a,b,c⟩:=hs.2 i x l[i] hx (by simp)
 have hg:=hV.grp x (List.mem_of_getElem? hx)
 exact ⟨by rw [a];exact hg.name,by rw [b];exact hg.tr0,by rw [b];exact hg.tr7,by rw [c];exact hg.len,by rw [c];exact hg.traf⟩
end Go.Proofs.Tryz
