/-
  Lemmas about the program and the machine (C11 to C11), upon which the last text of this claim rests; no condition.
-/
import Derived.IntWalk
import Derived.Test.YtnpjncjnmpfgpaaGreatDoorG03
set_option linter.unusedSimpArgs false
set_option linter.unusedVariables false
namespace Go.Proofs.Tryz
open Go Go.Load Go.RowKit
theorem jT (w:World):(isAgg 45).run qf w=.ok true w:=(zB _ _).trans (Tryz.isAgg45 w)
theorem ja (w:World):(Go.sizeOf 45).run qf w=.ok 2 w:=(yh _ _).trans (Tryz.sizeOf45 w)
set_option maxHeartbeats 1000000 in
theorem sums_any (l:List (Int×Int)) (b o c:Nat) (hl:l.length≤4) (h1:∀x∈l,0≤x.1∧x.1≤9) (h2:∀x∈l,0≤x.2∧x.2≤9) (w:World) (hP:qL w b o l) :
 Calls qf 73 #[.slice (some ⟨b,o,none⟩) l.length c] w fun e w'=>e=.returned (.tuple #[.int .i64 (qbv l),.int .i64 (qbw l)])∧Below w.heap.size w w':=by
 go_enter s73,ntmps73
 go_wp2
 go_loopw [2,3,8] (fun x y i wr=>∃k:Nat,i=.int .i64 k∧k≤l.length∧x=.int .i64 (qbv (l.take k))∧y=.int .i64 (qbw (l.take k))∧Below w.heap.size w wr) (fun _ _ i _=>l.length - (intOf i).toNat)
 case atStart=>exact ⟨0,rfl,Nat.zero_le _,rfl,rfl,by go_grown⟩
 case round =>
  obtain ⟨k,rfl,hk,rfl,rfl,hB⟩:=hrel
  by_cases hlt:k < l.length
  ·obtain ⟨x,hx⟩:∃x,l[k]? = some x:=⟨l[k],by simp [hlt]⟩
   have n1:=qfG hx
   have n2:=qfI hx
   have b1:=qfF (l:=l.take k) (m:=9) fun y hy=>h1 y (List.mem_of_mem_take hy)
   have b2:=qfH (l:=l.take k) (m:=9) fun y hy=>h2 y (List.mem_of_mem_take hy)
   have hm:x∈l:=List.mem_of_getElem? hx
   have x1:=h1 x hm
   have x2:=h2 x hm
   obtain ⟨c0,c1⟩:=hP k x hx
   have c0:=qb _ hB c0
   have c1:=qb _ hB c1
   rw [List.length_take,Nat.min_eq_left hk] at b1 b2
   have N1:=Lib.hid n1
   have N2:=Lib.hid n2
   clear n1 n2 hP h1 h2
   generalize qbv (l.take k)=s1 at *
   generalize qbw (l.take k)=s2 at *
   obtain ⟨x1',x2'⟩:=x
   simp only at x1 x2 c0 c1 N1 N2
   have e1:IntKind.i64.wrap (s1+x1')=s1+x1':=IntWalk.i64_in _ (by omega)
   have e2:IntKind.i64.wrap (s2+x2')=s2+x2':=IntWalk.i64_in _ (by omega)
   go_wp2
   go_quiet (fail)
   clear e1 e2
   go_wp2
   go_roundw
   case rel=>exact ⟨k+1,rfl,by omega,by rw [N1.out],by rw [N2.out],below_drewN (hB.alloc (by have:=hB.size;omega) _) _⟩
   case measure=>simp [intOf];omega
  ·obtain rfl:k=l.length:=by omega
   go_wp2
   go_ret2
   exact ⟨by rw [List.take_length];rfl,hB⟩
def Cnt (x:Int×Int):Prop:=0≤x.1∧x.1≤x.2∧x.2≤9
instance (x:Int×Int):Decidable (Cnt x):=by unfold Cnt;infer_instance
def fitsV (l:List (Int×Int)) (p:Int):Value :=
 if 1≤l.length∧l.length≤4 then (if (∀x∈l,Cnt x)∧1≤p∧p≤4 then tv (p * qbv l / l.length,p * qbw l / l.length) 0 else tv (0,0) 1) else tv (0,0) 2
theorem qcq (a:Option Addr) (n c:Nat) (p:Int) (h:¬ (1≤n∧n≤4)) (w:World):Calls qf 22 #[.slice a n c,.int .i64 p] w fun e w'=>e=.returned (tv (0,0) 2)∧Below w.heap.size w w':=by
 simp only [tv,fv] at *
 go_enter s22,ntmps22
 go_wp2_with (go_at_call 65;(with_reducible refine (qU _ _ _ _ (by omega)).mono ?_);rintro e w1 ⟨rfl,rfl⟩)
 go_returns
 exact ⟨rfl,by go_grown⟩
def qay (w wr:World):Prop:=Below w.heap.size w wr∧w.heap.size+1≤wr.heap.size∧wr.cell? ⟨w.heap.size,0,none⟩=some (.int .i64 0)∧wr.cell? ⟨w.heap.size,1,none⟩=some (.int .i64 0)∧wr.frozen? ⟨w.heap.size,0,none⟩=false∧wr.frozen? ⟨w.heap.size,1,none⟩=false
theorem qay.alloc {w wr:World} {o:Obj} (h:qay w wr):qay w (wr.alloc o):=by
 obtain ⟨a,b,c,d,e,f⟩:=h
 exact ⟨a.alloc (by omega) _,by simp;omega,qi c,qi d,qo c e,qo d f⟩
theorem qay.call {w wr w1:World} (h:qay w wr) (hB:Below wr.heap.size wr w1):qay w w1:=by
 obtain ⟨a,b,c,d,e,f⟩:=h
 exact ⟨bcl a hB,Nat.le_trans b hB.size,qb _ hB c,qb _ hB d,qg _ hB c e,qg _ hB d f⟩
set_option maxHeartbeats 2000000 in
theorem qdz (l:List (Int×Int)) (b o c:Nat) (p:Int) (hl1:1≤l.length) (hl:l.length≤4) (w:World) (hP:qL w b o l) :
 Calls qf 22 #[.slice (some ⟨b,o,none⟩) l.length c,.int .i64 p] w fun e w'=>e=.returned (if (∀x∈l,Cnt x)∧1≤p∧p≤4 then tv (p * qbv l / l.length,p * qbw l / l.length) 0 else tv (0,0) 1)∧Below w.heap.size w w':=by
 obtain ⟨V,hV⟩:∃V,(if (∀x∈l,Cnt x)∧1≤p∧p≤4 then tv (p * qbv l / l.length,p * qbw l / l.length) 0 else tv (0,0) 1)=V:=⟨_,rfl⟩
 rw [hV]
 have HV:=Lib.hid hV
 clear hV
 go_enter s22,ntmps22
 go_wp2_with (go_at_call 65;(with_reducible refine (qC _ _ _ _ (by omega)).mono ?_);rintro e w1 ⟨rfl,rfl⟩)
 go_loopw [17] (fun i wr=>∃k:Nat,i=.int .i64 k∧k≤l.length∧qay w wr∧Hid (∀x∈l.take k,Cnt x)) (fun i _=>l.length - (intOf i).toNat)
 case atStart=>exact ⟨0,rfl,Nat.zero_le _,⟨by go_grown,by simp,by go_cell,by go_cell,by go_cell,by go_cell⟩,Lib.hid (by simp)⟩
 case round =>
  obtain ⟨k,rfl,hk,hF,HT⟩:=hrel
  by_cases hlt:k < l.length
  ·obtain ⟨x,hx⟩:∃x,l[k]? = some x:=⟨l[k],by simp [hlt]⟩
   have hm:x∈l:=List.mem_of_getElem? hx
   obtain ⟨c0,c1⟩:=hP k x hx
   have c0:=qb _ hF.1 c0
   have c1:=qb _ hF.1 c1
   have HX:=Lib.hid hx
   have HM:=Lib.hid hm
   clear hx hm hP
   by_cases hg:Cnt x
   ·have HG:=Lib.hid hg
    obtain ⟨g1,g2,g3⟩:=hg
    obtain ⟨x1,x2⟩:=x
    simp only at g1 g2 g3 c0 c1
    go_wp2
    go_roundw
    case rel =>
     refine ⟨k+1,rfl,by omega,hF.alloc,Lib.hid ?_⟩
     rw [List.take_succ_eq_append_getElem hlt]
     intro y hy
     rcases List.mem_append.1 hy with h | h
     ·exact HT.out y h
     ·obtain rfl:=List.mem_singleton.1 h
      have:=(List.getElem?_eq_some_iff.1 HX.out).2
      rw [this];exact HG.out
    case measure=>simp [intOf];omega
   ·obtain ⟨e1,e2,e3,e4,e5,e6⟩:=hF.alloc (o:=.cells #[.int .i64 x.1,.int .i64 x.2] 45)
    have hv:V=tv (0,0) 1:=by rw [← HV.out,if_neg (fun h=>hg (h.1 x HM.out))]
    obtain ⟨x1,x2⟩:=x
    simp only [tv,fv] at hv
    simp only at c0 c1 e1 e2 e3 e4 e5 e6
    have HW:=Lib.hid hv
    clear hv
    by_cases g1:x1 < 0
    ·go_wp2
     exact Ji results22 jT ja rfl rfl e3 e4 ⟨by rw [HW.out];rfl,(e1.setCell (Nat.le_refl _) _).setCell (Nat.le_refl _) _⟩
    ·by_cases g2:x2 < x1
     ·go_wp2
      exact Ji results22 jT ja rfl rfl e3 e4 ⟨by rw [HW.out];rfl,(e1.setCell (Nat.le_refl _) _).setCell (Nat.le_refl _) _⟩
     ·have g3:9 < x2:=by
       have:¬ (0≤x1∧x1≤x2∧x2≤9):=hg
       omega
      go_wp2
      exact Ji results22 jT ja rfl rfl e3 e4 ⟨by rw [HW.out];rfl,(e1.setCell (Nat.le_refl _) _).setCell (Nat.le_refl _) _⟩
  ·obtain rfl:k=l.length:=by omega
   have hall:∀x∈l,Cnt x:=by have:=HT.out;rwa [List.take_length] at this
   by_cases hp:1≤p∧p≤4
   ·have hv:V=tv (p * qbv l / l.length,p * qbw l / l.length) 0:=by rw [← HV.out,if_pos ⟨hall,hp⟩]
    have hs:=fun W hP=>sums_any l b o c hl (fun x hx=>⟨(hall x hx).1,by have:=hall x hx;have a:=this.2.1;have b:=this.2.2;omega⟩) (fun x hx=>⟨by have:=hall x hx;have a:=this.1;have b:=this.2.1;omega,(hall x hx).2.2⟩) W hP
    have b1:=qfF (l:=l) (m:=9) fun x hx=>⟨(hall x hx).1,by have:=hall x hx;have a:=this.2.1;have b:=this.2.2;omega⟩
    have b2:=qfH (l:=l) (m:=9) fun x hx=>⟨by have:=hall x hx;have a:=this.1;have b:=this.2.1;omega,(hall x hx).2.2⟩
    have HS:=Lib.hid (hs wr (fun i x hx=>⟨qb _ hF.1 (hP i x hx).1,qb _ hF.1 (hP i x hx).2⟩))
    have HW:=Lib.hid hv
    clear hs hv hall HT
    generalize qbv l=s1 at *
    generalize qbw l=s2 at *
    go_wp2_with (first | (go_at_call 65;(with_reducible refine (qC _ _ _ _ hp).mono ?_);rintro e w1 ⟨rfl,rfl⟩) | (go_at_call 73;refine HS.out.mono ?_;rintro e w1 ⟨rfl,hB1⟩;obtain ⟨f1,f2,f3,f4,f5,f6⟩:=hF.call hB1))
    have m1:=Int.mul_nonneg (show 0≤p by omega) b1.1
    have m2:=Int.mul_nonneg (show 0≤p by omega) b2.1
    have m3:=Int.mul_le_mul hp.2 (show s1≤36 by omega) b1.1 (by omega)
    have m4:=Int.mul_le_mul hp.2 (show s2≤36 by omega) b2.1 (by omega)
    have q1:IntKind.i64.wrap (p * s1)=p * s1:=IntWalk.i64_in _ (by omega)
    have q2:IntKind.i64.wrap (p * s2)=p * s2:=IntWalk.i64_in _ (by omega)
    go_region
    clear q1 q2
    have d1:=Int.ediv_nonneg m1 (Int.natCast_nonneg l.length)
    have d2:=Int.ediv_nonneg m2 (Int.natCast_nonneg l.length)
    have d3:=Int.ediv_le_self (l.length:Int) m1
    have d4:=Int.ediv_le_self (l.length:Int) m2
    go_wp2
    have hpp:=ZP (.int .i64 (p * s1 / l.length)) (.int .i64 (p * s2 / l.length)) f3 f4
    refine bodyPost_ret (qZ results22 rfl rfl (xu jT ja hpp.1 hpp.2)) rfl ⟨by rw [HW.out];rfl,?_⟩
    exact ((f1.setCell (Nat.le_refl _) _).setCell (Nat.le_refl _) _).drew
   ·have hv:V=tv (0,0) 1:=by rw [← HV.out,if_neg (fun h=>hp h.2)]
    simp only [tv,fv] at hv
    have HW:=Lib.hid hv
    clear hv hall
    obtain ⟨e1,e2,e3,e4,e5,e6⟩:=hF
    go_wp2_with (go_at_call 65;(with_reducible refine (qU _ _ _ _ hp).mono ?_);rintro e w1 ⟨rfl,rfl⟩)
    exact Ji results22 jT ja rfl rfl e3 e4 ⟨by rw [HW.out];rfl,(e1.setCell (Nat.le_refl _) _).setCell (Nat.le_refl _) _⟩
theorem Fits_any (l:List (Int×Int)) (a:Option Addr) (c:Nat) (p:Int) (w:World) (hP:1≤l.length→∃b o,a=some ⟨b,o,none⟩∧qL w b o l) :
 Calls qf 22 #[.slice a l.length c,.int .i64 p] w fun e w'=>e=.returned (fitsV l p)∧Below w.heap.size w w':=by
 unfold fitsV
 by_cases h:1≤l.length∧l.length≤4
 ·rw [if_pos h]
  obtain ⟨b,o,rfl,hp⟩:=hP h.1
  exact qdz l b o c p h.1 h.2 w hp
 ·rw [if_neg h];exact qcq a l.length c p h w
end Go.Proofs.Tryz
