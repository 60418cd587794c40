/-
  Lemmas about the program and the machine (C19 to C32), upon which the last text of this claim rests; no condition.
-/
import Derived.LoopN
import Derived.Maps.AppendAt
import Derived.WalkSpells
import Derived.Deep.DeepCutAuto
import Derived.Test.YtnpjncjnmpfgpaaGreatDoorG03
set_option linter.unusedSimpArgs false
set_option linter.unusedVariables false
namespace Go.Proofs.Tryz
open Go Go.Load Go.RowKit
def fnum:Value:=.func (.func 150) #[] #[]
def fgrp:Value:=.func (.func 151) #[] #[]
structure Globs (w:World):Prop where
 c0:w.cell? ⟨0,0,none⟩=some fnum
 c1:w.cell? ⟨0,1,none⟩=some fgrp
 n0:w.cell? ⟨1,0,none⟩=some (.int .i64 0)
 n1:w.cell? ⟨1,1,none⟩=some (.int .i64 1)
theorem Globs.keep {w w1:World} (h:Globs w) (hB:Below w.heap.size w w1):Globs w1:=⟨qb _ hB h.c0,qb _ hB h.c1,qb _ hB h.n0,qb _ hB h.n1⟩
def checkN (B:Bk):Int:=if zJ B=0 then yN B else zJ B
set_option maxHeartbeats 2000000 in
set_option maxRecDepth 100000 in
theorem jc (B:Bk) (w:World) (h:BookAt w B) (hG:Globs w):Calls qf 10 #[bv B] w fun e w'=>e=.returned (.int .i64 (checkN B))∧Below w.heap.size w w':=by
 have hnu:=fun W=>qbe B W
 have hgr:=fun W (hB:Below w.heap.size w W)=>qcG B W (h.keep hB)
 obtain ⟨k0,k1,_,_⟩:=hG
 have l0:=lt_of_cell k0
 have i0:∀w,(Instr.index 78 (.agg #[fnum,fgrp]) (.int .i64 0)).run qf w=.ok fnum w:=fun _=>by kernel_rfl
 have i1:∀w,(Instr.index 78 (.agg #[fnum,fgrp]) (.int .i64 1)).run qf w=.ok fgrp w:=fun _=>by kernel_rfl
 unfold checkN
 generalize zJ B=r1 at *
 generalize yN B=r2 at *
 obtain ⟨lim,gr,hr,gs,ga,gc⟩:=B
 simp only [bv,fnum,fgrp] at *
 clear h
 by_cases hz:r1=0
 ·subst hz
  rw [if_pos rfl]
  have hgr1:=fun W (hB:Below w.heap.size w W)=>hgr W hB
  by_cases hz2:r2=0
  ·subst hz2
   go_enter s10,ntmps10
   go_wp2
   refine wp_loop_rounds 3 ?_
   rw [rounds_succ]
   go_wp2_with (go_at_call 150;(with_reducible refine (hnu _).mono ?_);rintro e w1 ⟨rfl,hB1⟩;(first | (replace hB:=bcl (by with_reducible assumption) hB1) | (replace hB:=bcl (by go_grown) hB1) | (have hB:=hB1));(try clear hc hg hz);obtain ⟨hc,hg⟩:=qx hB;have hz:=hB.size;clear hB1;(try simp at hz);(try have hlt0:w.heap.size < w1.heap.size:=by omega))
   rw [rounds_succ]
   go_wp2_with (go_at_call 151;refine (hgr _ (bcl (w:=w) (by go_grown) hB)).mono ?_;rintro e w2 ⟨rfl,hB2⟩)
   rw [rounds_succ]
   go_wp2
   go_ret
   exact ⟨rfl,bcl (bcl (w:=w) (by go_grown) hB) hB2⟩
  ·have hb:(r2 != 0)=true:=by simp [hz2]
   clear hz2
   go_enter s10,ntmps10
   go_wp2
   refine wp_loop_rounds 3 ?_
   rw [rounds_succ]
   go_wp2_with (go_at_call 150;(with_reducible refine (hnu _).mono ?_);rintro e w1 ⟨rfl,hB1⟩;(first | (replace hB:=bcl (by with_reducible assumption) hB1) | (replace hB:=bcl (by go_grown) hB1) | (have hB:=hB1));(try clear hc hg hz);obtain ⟨hc,hg⟩:=qx hB;have hz:=hB.size;clear hB1;(try simp at hz);(try have hlt0:w.heap.size < w1.heap.size:=by omega))
   rw [rounds_succ]
   go_wp2_with (go_at_call 151;refine (hgr _ (bcl (w:=w) (by go_grown) hB)).mono ?_;rintro e w2 ⟨rfl,hB2⟩)
   go_ret
   exact ⟨rfl,bcl (bcl (w:=w) (by go_grown) hB) hB2⟩
 ·rw [if_neg hz]
  have hb:(r1 != 0)=true:=by simp [hz]
  clear hz
  go_enter s10,ntmps10
  go_wp2
  refine wp_loop_rounds 3 ?_
  rw [rounds_succ]
  go_wp2_with (go_at_call 150;(with_reducible refine (hnu _).mono ?_);rintro e w1 ⟨rfl,hB1⟩;(first | (replace hB:=bcl (by with_reducible assumption) hB1) | (replace hB:=bcl (by go_grown) hB1) | (have hB:=hB1));(try clear hc hg hz);obtain ⟨hc,hg⟩:=qx hB;have hz:=hB.size;clear hB1;(try simp at hz);(try have hlt0:w.heap.size < w1.heap.size:=by omega))
  go_ret
  exact ⟨rfl,bcl (w:=w) (by go_grown) hB⟩
theorem jU (w:World):(isAgg 67).run qf w=.ok true w:=(zB _ _).trans (Tryz.isAgg67 w)
theorem jb (w:World):(Go.sizeOf 67).run qf w=.ok 5 w:=(yh _ _).trans (Tryz.sizeOf67 w)
theorem YU (w:World):(isAgg 26).run qf w=.ok true w:=(zB _ _).trans (Tryz.isAgg26 w)
theorem Zu (w:World):(Go.sizeOf 26).run qf w=.ok 5 w:=(yh _ _).trans (Tryz.sizeOf26 w)
def bz:Value:=.agg #[.int .i64 0,.int .i64 0,.int .i64 0,.int .i64 0,.slice none 0 0]
def Zm (B:Bk) (there:Bool):Value:=if checkN B=0 then (if there then .tuple #[bv B,.int .i64 0] else .tuple #[bz,.int .i64 6]) else .tuple #[bz,.int .i64 (checkN B)]
set_option maxHeartbeats 2000000 in
set_option maxRecDepth 100000 in
theorem yw (B:Bk) (there:Bool) (w:World) (h:BookAt w B) (hG:Globs w):Calls qf 42 #[bv B,.bool there] w fun e w'=>e=.returned (Zm B there)∧Below w.heap.size w w':=by
 have hch:=fun W (hB:Below w.heap.size w W)=>jc B W (h.keep hB) (hG.keep hB)
 unfold Zm
 generalize checkN B=r at *
 obtain ⟨lim,gr,hr,gs,ga,gc⟩:=B
 simp only [bv,bz] at *
 clear h hG
 by_cases hz:r=0
 ·subst hz
  rw [if_pos rfl]
  cases there with
  | true =>
    rw [if_pos rfl]
    go_enter s42,ntmps42
    go_wp2_with (go_at_call 10;refine (hch _ (by go_grown)).mono ?_;rintro e w1 ⟨rfl,hB1⟩;(first | (replace hB:=bcl (by with_reducible assumption) hB1) | (replace hB:=bcl (by go_grown) hB1) | (have hB:=hB1));(try clear hc hg hz);obtain ⟨hc,hg⟩:=qx hB;have hz:=hB.size;clear hB1;(try simp at hz);(try have hlt0:w.heap.size < w1.heap.size:=by omega))
    refine YJ results42 jU jb rfl rfl (u0:=.int .i64 0) (u1:=.int .i64 0) (u2:=.int .i64 0) (u3:=.int .i64 0) (u4:=.slice none 0 0) ?_ ?_ ?_ ?_ ?_ ⟨rfl,?_⟩
    ·rw [hc _ _ (by simp)];go_cell
    ·rw [hc _ _ (by simp)];go_cell
    ·rw [hc _ _ (by simp)];go_cell
    ·rw [hc _ _ (by simp)];go_cell
    ·rw [hc _ _ (by simp)];go_cell
    ·exact Below.set5 (bcl (w:=w) (by go_grown) hB) (by simp)
  | false =>
    rw [if_neg (by decide)]
    go_enter s42,ntmps42
    go_wp2_with (go_at_call 10;refine (hch _ (by go_grown)).mono ?_;rintro e w1 ⟨rfl,hB1⟩;(first | (replace hB:=bcl (by with_reducible assumption) hB1) | (replace hB:=bcl (by go_grown) hB1) | (have hB:=hB1));(try clear hc hg hz);obtain ⟨hc,hg⟩:=qx hB;have hz:=hB.size;clear hB1;(try simp at hz);(try have hlt0:w.heap.size < w1.heap.size:=by omega))
    refine YJ results42 jU jb rfl rfl (u0:=.int .i64 0) (u1:=.int .i64 0) (u2:=.int .i64 0) (u3:=.int .i64 0) (u4:=.slice none 0 0) ?_ ?_ ?_ ?_ ?_ ⟨rfl,?_⟩
    ·rw [hc _ _ (by simp)];go_cell
    ·rw [hc _ _ (by simp)];go_cell
    ·rw [hc _ _ (by simp)];go_cell
    ·rw [hc _ _ (by simp)];go_cell
    ·rw [hc _ _ (by simp)];go_cell
    ·exact Below.set5 (bcl (w:=w) (by go_grown) hB) (by simp)
 ·rw [if_neg hz]
  have hb:(r != 0)=true:=by simp [hz]
  clear hz
  go_enter s42,ntmps42
  go_wp2_with (go_at_call 10;refine (hch _ (by go_grown)).mono ?_;rintro e w1 ⟨rfl,hB1⟩;(first | (replace hB:=bcl (by with_reducible assumption) hB1) | (replace hB:=bcl (by go_grown) hB1) | (have hB:=hB1));(try clear hc hg hz);obtain ⟨hc,hg⟩:=qx hB;have hz:=hB.size;clear hB1;(try simp at hz);(try have hlt0:w.heap.size < w1.heap.size:=by omega))
  refine YJ results42 jU jb rfl rfl (u0:=.int .i64 0) (u1:=.int .i64 0) (u2:=.int .i64 0) (u3:=.int .i64 0) (u4:=.slice none 0 0) ?_ ?_ ?_ ?_ ?_ ⟨rfl,?_⟩
  ·rw [hc _ _ (by simp)];go_cell
  ·rw [hc _ _ (by simp)];go_cell
  ·rw [hc _ _ (by simp)];go_cell
  ·rw [hc _ _ (by simp)];go_cell
  ·rw [hc _ _ (by simp)];go_cell
  ·exact Below.set5 (bcl (w:=w) (by go_grown) hB) (by simp)
theorem qaX (B:Bk) (n:Int) (w:World) (hs:B.gs.length≤20):Calls qf 43 #[bv B,.int .i64 n] w fun e w'=>e=.returned (.bool (btw n 0 (B.gs.length - 1)))∧Below w.heap.size w w':=by
 obtain ⟨lim,gr,hr,gs,ga,gc⟩:=B
 simp only [bv] at *
 go_enter s43,ntmps43
 go_wp2_with (go_at_call 65;(with_reducible refine (zX _ _ _ _).mono ?_);rintro e w1 ⟨rfl,rfl⟩)
 go_ret
 exact ⟨rfl,by go_grown⟩
structure GoodGrp (hours:Int) (g:Grp):Prop where
 name:jy g.name=true
 tr0:0≤g.trunks
 tr7:g.trunks≤7
 len:(g.traffic.length:Int)=hours
 traf:∀x∈g.traffic,yj x
structure Valid (B:Bk):Prop where
 num:Jw B
 len1:1≤B.gs.length
 len4:B.gs.length≤4
 grp:∀g∈B.gs,GoodGrp B.hours g
theorem xh {n lo hi:Int}:btw n lo hi=true↔lo≤n∧n≤hi:=by simp [btw]
theorem XX {gs:List Grp} {hours:Int} {i:Nat} {g:Grp} (h:zw gs hours i g=0):GoodGrp hours g∧((gs.take i).any fun o=>o.name.toList == g.name.toList)=false:=by
 unfold zw at h
 by_cases h1:jy g.name=false
 ·rw [if_pos h1] at h;cases h
 ·rw [if_neg h1] at h
  by_cases h2:((gs.take i).any fun o=>o.name.toList == g.name.toList)=true
  ·rw [if_pos h2] at h;cases h
  ·rw [if_neg h2] at h
   by_cases h3:btw g.trunks 0 7=false
   ·rw [if_pos h3] at h;cases h
   ·rw [if_neg h3] at h
    by_cases h4:(g.traffic.length:Int)≠hours
    ·rw [if_pos h4] at h;cases h
    ·rw [if_neg h4] at h
     by_cases h5:(g.traffic.any fun x => !decide (yj x))=true
     ·rw [if_pos h5] at h;cases h
     ·have h3':=xh.1 (by simpa using h3)
      refine ⟨⟨by simpa using h1,h3'.1,h3'.2,by simpa using h4,fun x hx=>?_⟩,by simpa using h2⟩
      have h5':(g.traffic.any fun x => !decide (yj x))=false:=by simpa using h5
      rw [List.any_eq_false] at h5'
      simpa using h5' x hx
theorem jI {f:Nat→Grp→Int}:∀{l:List Grp} {k:Nat},qP f k l=0→∀(i:Nat) (g:Grp),l[i]? = some g→f (k+i) g=0
 | [],_,_,i,g,hg=>by simp at hg
 | x :: l,k,h,i,g,hg=>by
   simp only [qP] at h
   by_cases hx:f k x≠0
   ·rw [if_pos hx] at h;exact absurd h hx
   ·rw [if_neg hx] at h
    cases i with
    | zero =>
      simp at hg;subst hg
      exact Classical.byContradiction hx
    | succ i =>
      have:=jI h i g (by simpa using hg)
      rwa [show k+1+i=k+(i+1) by omega] at this
theorem qI {B:Bk} (h:checkN B=0):Valid B:=by
 unfold checkN at h
 by_cases hn:zJ B=0
 ·rw [if_pos hn] at h
  unfold yN at h
  by_cases hl:1≤B.gs.length∧B.gs.length≤4
  ·rw [if_pos hl] at h
   refine ⟨?_,hl.1,hl.2,fun g hg=>?_⟩
   ·unfold zJ at hn
    by_cases hz:Jw B
    ·exact hz
    ·rw [if_neg hz] at hn;cases hn
   ·obtain ⟨i,hi⟩:=List.getElem?_of_mem hg
    exact (XX (jI h i g hi)).1
  ·rw [if_neg hl] at h;cases h
 ·rw [if_neg hn] at h;exact absurd h hn
theorem Valid.trunks {B:Bk} (h:Valid B) {g:Grp} (hg:g∈B.gs):∃T:Nat,g.trunks=T∧T≤7:=by
 have:=h.grp g hg
 obtain ⟨T,hT⟩:=Int.eq_ofNat_of_zero_le this.tr0
 exact ⟨T,hT,by have:=this.tr7;omega⟩
end Go.Proofs.Tryz
namespace Go.Proofs.Tryz
open Go Go.Load Go.RowKit Go.Maps
theorem Xe {w w1:World} (h:Below w.heap.size w w1):w.grownBy w1 none:=⟨h.os,h.tape,h.output,h.size,fun k hk _=>h.block k hk⟩
theorem zS {w w1:World} {base e size n:Nat} {v:Value} {xs:List Value} (h:w.ownsRow base e size v n xs) (hB:Below w.heap.size w w1):w1.ownsRow base e size v n xs:=h.kept (Xe hB) (by cases v.ownBlock <;> simp)
theorem Zn {w:World} {base base' e size n:Nat} {v:Value} {xs:List Value} (h:w.ownsRow base e size v n xs) (hb:base'≤base):w.ownsRow base' e size v n xs:=by
 refine ⟨h.1,h.2.imp id ?_⟩
 rintro ⟨g,cap,cur,a,b,c⟩
 exact ⟨g,cap,cur,a,Nat.le_trans hb b,c⟩
theorem ZY:(Tryz.prog.info? 3).map (fun i=>(i.zero,i.size,i.bytes))=some (some (.int .i64 0),1,8):=by kernel_rfl
def zU (B:Bk):Nat→List Grp→List Int
 | _,[]=>[]
 | i,g :: l=>if jG B g g.trunks.toNat then (i:Int) :: zU B (i+1) l else zU B (i+1) l
def Qn (B:Bk) (k:Nat):List Int:=zU B 0 (B.gs.take k)
theorem QL (B:Bk) (g:Grp):∀(l:List Grp) (i:Nat),zU B i (l ++ [g])=zU B i l ++ (if jG B g g.trunks.toNat then [((i+l.length:Nat):Int)] else [])
 | [],i=>by simp [zU]
 | x :: l,i=>by
   simp only [List.cons_append,zU,QL B g l (i+1),List.length_cons]
   rw [show i+1+l.length=i+(l.length+1) by omega]
   split <;> simp
theorem Xo {B:Bk} {k:Nat} {g:Grp} (h:B.gs[k]? = some g):Qn B (k+1)=Qn B k ++ (if jG B g g.trunks.toNat then [(k:Int)] else []):=by
 obtain ⟨hk,rfl⟩:=List.getElem?_eq_some_iff.1 h
 unfold Qn
 rw [List.take_succ_eq_append_getElem hk,QL,List.length_take,Nat.min_eq_left (Nat.le_of_lt hk),Nat.zero_add]
theorem jJ (B:Bk) (k:Nat):(Qn B k).length≤k:=by
 have:∀(l:List Grp) (i:Nat),(zU B i l).length≤l.length:=fun l=>by
  induction l with
  | nil=>intro i;simp [zU]
  | cons g l ih=>intro i;simp only [zU];split <;> simp <;> have:=ih (i+1) <;> omega
 exact Nat.le_trans (this _ _) (by simp;omega)
def SliceOf (base:Nat) (w:World) (v:Value) (l:List Int):Prop:=w.ownsRow base 3 1 v l.length (l.map (.int .i64))
def QE (B:Bk) (w:World) (e:Ending) (w':World):Prop :=
 if checkN B=0 then ∃v,e=.returned (.tuple #[v,.int .i64 0])∧SliceOf w.heap.size w' v (Qn B B.gs.length)∧Below w.heap.size w w' else e=.returned (.tuple #[.slice none 0 0,.int .i64 (checkN B)])∧Below w.heap.size w w'
set_option maxHeartbeats 4000000 in
set_option maxRecDepth 100000 in
theorem XG (B:Bk) (w:World) (h:BookAt w B) (hG:Globs w):Calls qf 12 #[bv B] w (QE B w):=by
 obtain ⟨i0,hi,hz0,hz1,hz2⟩:=info_parts ZY
 have hi:=(yE 3).trans hi
 have hop:=fun W (hB:Below w.heap.size w W)=>yw B true W (h.keep hB) (hG.keep hB)
 unfold Zm at hop
 unfold QE
 by_cases hz:checkN B=0
 ·have hV:=qI hz
  simp only [if_pos hz,if_true] at hop ⊢
  have hfi:=fun (W:World) (hB:Below w.heap.size w W) (i T:Nat) (g:Grp) (hg:B.gs[i]? = some g) (hT:T≤7)=>XT B i T g hg hT W ⟨h.keep hB,hV.num.1⟩ (hV.grp g (List.mem_of_getElem? hg)).traf
  obtain ⟨b,o,hga,hcs⟩:=h.row hV.len1
  have HT:=Lib.hid fun g (hg:g∈B.gs)=>hV.trunks hg
  have hl4:=hV.len4
  have HS:=Lib.hid fun (k:Nat) (g:Grp) (hg:B.gs[k]? = some g)=>Xo hg
  have HL:=Lib.hid fun (k:Nat)=>jJ B k
  have HN:Hid (Qn B 0=[]):=Lib.hid (by simp [Qn,zU])
  obtain ⟨N,hN⟩:∃N,N=Qn B:=⟨_,rfl⟩
  rw [← hN] at HS HL HN ⊢
  have HF:=Lib.hid hfi
  clear hN hV hz h hG hfi
  obtain ⟨lim,gr,hr,gs,ga,gc⟩:=B
  simp only at hga hcs hl4
  subst hga
  simp only [bv] at *
  have HC:=Lib.hid hcs
  clear hcs
  go_enter s12,ntmps12
  go_wp2_with (go_at_call 42;refine (hop _ (by go_grown)).mono ?_;rintro e w1 ⟨rfl,hB1⟩;(first | (replace hB:=bcl (by with_reducible assumption) hB1) | (replace hB:=bcl (by go_grown) hB1) | (have hB:=hB1));(try clear hc hg hz);obtain ⟨hc,hg⟩:=qx hB;have hz:=hB.size;clear hB1;(try simp at hz);(try have hlt0:w.heap.size < w1.heap.size:=by omega))
  obtain ⟨W,hW⟩:∃W,w1.alloc (Obj.cells #[.int .i64 lim.1,.int .i64 lim.2,.int .i64 gr,.int .i64 hr,.slice (some ⟨b,o,none⟩) gs.length gc] 67)=W:=⟨_,rfl⟩
  have k0:W.cell? ⟨w1.heap.size,0,none⟩=some (.int .i64 lim.1):=by subst hW;go_cell
  have k1:W.cell? ⟨w1.heap.size,1,none⟩=some (.int .i64 lim.2):=by subst hW;go_cell
  have k2:W.cell? ⟨w1.heap.size,2,none⟩=some (.int .i64 gr):=by subst hW;go_cell
  have k3:W.cell? ⟨w1.heap.size,3,none⟩=some (.int .i64 hr):=by subst hW;go_cell
  have k4:W.cell? ⟨w1.heap.size,4,none⟩=some (.slice (some ⟨b,o,none⟩) gs.length gc):=by subst hW;go_cell
  have hBW:Below w.heap.size w W:=by subst hW;exact (bcl (w:=w) (by go_grown) hB).alloc (by omega) _
  rw [hW]
  clear hW hc hg hB hop
  go_loopw [6,20] (fun v i wr=>∃k:Nat,i=.int .i64 k∧k≤gs.length∧Below W.heap.size W wr∧SliceOf W.heap.size wr v (N k)) (fun _ i _=>gs.length - (intOf i).toNat)
  case atStart=>exact ⟨0,rfl,by omega,Below.refl _ _,by rw [HN.out];exact World.ownsRow_nil _ _ _ _⟩
  case round =>
   obtain ⟨k,rfl,hk,hBr,hown⟩:=hrel
   unfold SliceOf at hown
   have k0:=qb _ hBr k0
   have k1:=qb _ hBr k1
   have k2:=qb _ hBr k2
   have k3:=qb _ hBr k3
   have k4:=qb _ hBr k4
   have l4:=lt_of_cell k4
   have hBw:=bcl hBW hBr
   have s1:=hBw.size
   have s2:=hBr.size
   by_cases hlt:k < gs.length
   ·obtain ⟨g,hg⟩:∃g,gs[k]? = some g:=⟨gs[k],by simp [hlt]⟩
    have hm:g∈gs:=List.mem_of_getElem? hg
    obtain ⟨c0,c1,c2⟩:=HC.out k g hg
    have c0:=qb _ hBw c0
    have c1:=qb _ hBw c1
    have c2:=qb _ hBw c2
    obtain ⟨T,hT,hT7⟩:=HT.out g hm
    rw [hT] at c1
    have hfi:=fun W hB=>HF.out W hB k T g hg hT7
    have hsn:=HS.out k g hg
    have hln:=HL.out k
    rw [hT,Int.toNat_natCast] at hsn
    generalize N k=l at *
    obtain ⟨r,hr⟩:∃r,jG { lim:=lim,growth:=gr,hours:=hr,gs:=gs,ga:=some { block:=b,off:=o,spot:=none },gc:=gc } g T=r:=⟨_,rfl⟩
    rw [hr] at hsn
    simp only [hr] at hfi
    have HN:=Lib.hid hsn
    clear hsn hg hm hr hT
    cases r with
    | true =>
      go_wp2_with (first | (go_at_call 56;refine (hfi _ (by go_grown)).mono ?_;rintro e w2 ⟨rfl,hB2⟩;have s3:=hB2.size;simp at s3) | (at_builtin;refine wpList_append_own _ rfl (.tmp 30) (.tmp 32) 33 rfl W.heap.size 3 i0 (.int .i64 0) 1 8 ((qY _).trans Tryz.underlying33) hi hz0 hz1 hz2 rfl (by decide) _ _ _ rfl ((zS (hown.alloc _) hB2).alloc _) ⟨w2.heap.size,0,none⟩ 1 1 [.int .i64 k] rfl rfl (cell_one_new _ _ _) (ints_oneCell .i64 [(k:Int)]) (by unfold maxLen;omega) (by omega) (by simp;omega) ?_;intro v1 w3 hown1 hgrow1 hnil1))
      go_roundw
      case rel =>
       refine ⟨k+1,rfl,by omega,?_,?_⟩
       ·refine (((bcl (w:=W) (by go_grown) hB2).alloc (by omega) _).grown hgrow1 (by simp;omega) (fun j hj=>?_))
        exact (hown.lt j hj).1
       ·rw [HN.out]
        simpa [SliceOf] using hown1
      case measure=>simp [intOf];omega
    | false =>
      go_wp2_with (go_at_call 56;refine (hfi _ (by go_grown)).mono ?_;rintro e w2 ⟨rfl,hB2⟩)
      go_roundw
      case rel=>exact ⟨k+1,rfl,by omega,bcl (by go_grown) hB2,by rw [HN.out];simp;exact zS (hown.alloc _) hB2⟩
      case measure=>simp [intOf];omega
   ·obtain rfl:k=gs.length:=by omega
    go_wp2
    go_ret2
    exact ⟨_,rfl,Zn hown hBW.size,hBw⟩
 ·simp only [if_neg hz] at hop ⊢
  have hb:(checkN B != 0)=true:=by simp [hz]
  clear hz h hG
  generalize checkN B=r at *
  obtain ⟨lim,gr,hr,gs,ga,gc⟩:=B
  simp only [bv,bz] at *
  go_enter s12,ntmps12
  go_wp2_with (go_at_call 42;refine (hop _ (by go_grown)).mono ?_;rintro e w1 ⟨rfl,hB1⟩;(first | (replace hB:=bcl (by with_reducible assumption) hB1) | (replace hB:=bcl (by go_grown) hB1) | (have hB:=hB1));(try clear hc hg hz);obtain ⟨hc,hg⟩:=qx hB;have hz:=hB.size;clear hB1;(try simp at hz);(try have hlt0:w.heap.size < w1.heap.size:=by omega))
  go_ret2
  exact ⟨rfl,bcl (bcl (w:=w) (by go_grown) hB) ((Below.refl _ w1).alloc (Nat.le_refl _) _)⟩
def OwnAt (W:World) (g:Nat) (xs:List Value):Prop:=∀(j:Nat) (u:Value),xs[j]? = some u→W.cell? ⟨g,j,none⟩=some u∧W.frozen? ⟨g,j,none⟩=false
theorem OwnAt.keep {W W1:World} {g:Nat} {xs:List Value} (h:OwnAt W g xs) (hB:Below W.heap.size W W1):OwnAt W1 g xs:=fun j u hu=>⟨qb _ hB (h j u hu).1,qg _ hB (h j u hu).1 (h j u hu).2⟩
theorem YG {W:World} {base e size n:Nat} {v:Value} {xs:List Value} (h:W.ownsRow base e size v n xs) (hv:v≠.slice none 0 0):∃g cap,v=.slice (some ⟨g,0,none⟩) n cap∧base≤g∧g < W.heap.size∧n≤cap∧OwnAt W g xs:=by
 obtain ⟨_,h | ⟨g,cap,cur,rfl,hb,hg,hn,_,hs,ht⟩⟩:=h
 ·exact absurd h.1 hv
 ·refine ⟨g,cap,rfl,hb,(Array.getElem?_eq_some_iff.1 hg).1,hn,fun j u hu=>?_⟩
  rw [← ht,List.getElem?_take] at hu
  split at hu
  ·have hu:cur[j]? = some u:=by simpa using hu
   exact ⟨by unfold World.cell?;rw [hg];simp [hu],by unfold World.frozen?;rw [hg];simp⟩
  ·cases hu
theorem qem:(Tryz.prog.info? 23).map (fun i=>(i.zero,i.size,i.bytes))=some (some (.agg #[.int .i64 0,.int .i64 0]),2,16):=by kernel_rfl
theorem info_grp:(Tryz.prog.info? 56).map (fun i=>(i.zero,i.size,i.bytes))=some (some (.agg #[.string ⟨#[]⟩,.int .i64 0,.slice none 0 0]),3,48):=by kernel_rfl
def qK (l:List (Int×Int)):List Value:=l.flatMap fun x=>[.int .i64 x.1,.int .i64 x.2]
def qN (l:List Grp):List Value:=l.flatMap fun g=>[.string g.name,.int .i64 g.trunks,.slice g.ta g.traffic.length g.tc]
theorem yQ (l:List (Int×Int)):(qK l).length=l.length * 2:=by
 induction l with
 | nil=>rfl
 | cons x l ih=>simp only [qK,List.flatMap_cons,List.length_append,List.length_cons,List.length_nil] at *;omega
theorem yo (l:List Grp):(qN l).length=l.length * 3:=by
 induction l with
 | nil=>rfl
 | cons x l ih=>simp only [qN,List.flatMap_cons,List.length_append,List.length_cons,List.length_nil] at *;omega
theorem yx:∀(l:List (Int×Int)) (i:Nat) (x:Int×Int),l[i]? = some x→(qK l)[i * 2]? = some (.int .i64 x.1)∧(qK l)[i * 2+1]? = some (.int .i64 x.2)
 | [],i,x,h=>by simp at h
 | y :: l,0,x,h=>by
   obtain rfl:y=x:=by simpa using h
   exact ⟨rfl,rfl⟩
 | y :: l,i+1,x,h=>by
   have:=yx l i x (by simpa using h)
   rw [show (i+1) * 2=i * 2+2 by omega,show i * 2+2+1=(i * 2+1)+2 by omega]
   exact this
theorem zq:∀(l:List Grp) (i:Nat) (g:Grp),l[i]? = some g→(qN l)[i * 3]? = some (.string g.name)∧(qN l)[i * 3+1]? = some (.int .i64 g.trunks)∧(qN l)[i * 3+2]? = some (.slice g.ta g.traffic.length g.tc)
 | [],i,x,h=>by simp at h
 | y :: l,0,x,h=>by
   obtain rfl:y=x:=by simpa using h
   exact ⟨rfl,rfl,rfl⟩
 | y :: l,i+1,x,h=>by
   have:=zq l i x (by simpa using h)
   rw [show (i+1) * 3=i * 3+3 by omega,show i * 3+3+1=(i * 3+1)+3 by omega,show i * 3+3+2=(i * 3+2)+3 by omega]
   exact this
theorem qaf {W:World} {b o:Nat} {l:List (Int×Int)} (h:qL W b o l):∀j u,(qK l)[j]? = some u→W.cell? ((⟨b,o,none⟩:Addr).add j)=some u:=fun j u hu=>by
 have hj:j < l.length * 2:=by have:=(List.getElem?_eq_some_iff.1 hu).1;rwa [yQ] at this
 obtain ⟨x,hx⟩:∃x,l[j / 2]? = some x:=⟨l[j / 2]'(by omega),by simp⟩
 have hp:=yx l (j / 2) x hx
 have hc:=h (j / 2) x hx
 have ha:(⟨b,o,none⟩:Addr).add j=⟨b,o+j,none⟩:=by unfold Addr.add;split <;> simp_all
 rw [ha]
 rcases (show j=j / 2 * 2∨j=j / 2 * 2+1 by omega) with e | e
 ·rw [e] at hu ⊢
  rw [hp.1] at hu;cases hu
  exact hc.1
 ·rw [e] at hu ⊢
  rw [hp.2] at hu;cases hu
  exact hc.2
theorem qaU {W:World} {b o:Nat} {l:List Grp} (h:zG W b o l):∀j u,(qN l)[j]? = some u→W.cell? ((⟨b,o,none⟩:Addr).add j)=some u:=fun j u hu=>by
 have hj:j < l.length * 3:=by have:=(List.getElem?_eq_some_iff.1 hu).1;rwa [yo] at this
 obtain ⟨x,hx⟩:∃x,l[j / 3]? = some x:=⟨l[j / 3]'(by omega),by simp⟩
 have hp:=zq l (j / 3) x hx
 have hc:=h (j / 3) x hx
 have ha:(⟨b,o,none⟩:Addr).add j=⟨b,o+j,none⟩:=by unfold Addr.add;split <;> simp_all
 rw [ha]
 rcases (show j=j / 3 * 3∨j=j / 3 * 3+1∨j=j / 3 * 3+2 by omega) with e | e | e
 ·rw [e] at hu ⊢
  rw [hp.1] at hu;cases hu
  exact hc.1
 ·rw [e] at hu ⊢
  rw [hp.2.1] at hu;cases hu
  exact hc.2.1
 ·rw [e] at hu ⊢
  rw [hp.2.2] at hu;cases hu
  exact hc.2.2
def qdx (n:Nat) (xs:List Value) (w:World) (e:Ending) (w':World):Prop:=∃g cap,e=.returned (.slice (some ⟨g,0,none⟩) n cap)∧w.heap.size≤g∧g < w'.heap.size∧n≤cap∧OwnAt w' g xs∧Below w.heap.size w w'
set_option maxHeartbeats 1000000 in
set_option maxRecDepth 100000 in
theorem qcA (l:List (Int×Int)) (b o c:Nat) (h1:1≤l.length) (h2:l.length≤20) (w:World) (hP:qL w b o l) :
 Calls qf 117 #[.slice (some ⟨b,o,none⟩) l.length c] w (qdx l.length (qK l) w):=by
 obtain ⟨i0,hi,hz0,hz1,hz2⟩:=info_parts qem
 have hi:=(yE 23).trans hi
 have hU:qf.underlying 54=some (.slice 23):=(qY _).trans Tryz.underlying54
 have hnil:=fun w=>Lib.run_eql_slice_nil (P:=qf) w 54 23 (some ⟨b,o,none⟩) l.length c 0 0 hU
 have HP:=Lib.hid (qaf hP)
 have HN:=Lib.hid (yQ l)
 have HO:Hid (∀u∈qK l,u.oneCell'=true):=Lib.hid fun u hu=>by
  obtain ⟨x,_,hx⟩:=List.mem_flatMap.1 hu
  simp at hx;rcases hx with rfl | rfl <;> rfl
 clear hP
 go_enter s117,ntmps117
 go_wp2_with (at_builtin;refine wpList_append_own _ rfl (.tmp 5) (.tmp 6) 54 rfl w.heap.size 23 i0 (.agg #[.int .i64 0,.int .i64 0]) 2 16 hU hi hz0 hz1 hz2 rfl (by decide) _ 0 [] rfl (World.ownsRow_made w #[] 0 (Nat.le_refl _) (by unfold maxLen;omega) rfl) ⟨b,o,none⟩ l.length c (qK l) rfl HN.out (fun j u hu=>qi (HP.out j u hu)) HO.out (by unfold maxLen;omega) (by omega) (by simp) ?_;intro v1 w3 hown1 hgrow1 hnil1)
 go_ret
 obtain ⟨g,cap,e1,e2,e3,e4,e5⟩:=YG hown1 (fun e=>by have:=(hnil1.1 e).1;cases this)
 rw [Nat.zero_add] at e1 e4
 exact ⟨g,cap,by rw [e1];rfl,e2,e3,e4,by simpa using e5,((Below.refl _ w).alloc (Nat.le_refl _) _).grown hgrow1 (by simp) (fun k hk=>by cases hk;exact Nat.le_refl _)⟩
set_option maxHeartbeats 1000000 in
set_option maxRecDepth 100000 in
theorem qcB (l:List Grp) (b o c:Nat) (h1:1≤l.length) (h2:l.length≤20) (w:World) (hP:zG w b o l) :
 Calls qf 116 #[.slice (some ⟨b,o,none⟩) l.length c] w (qdx l.length (qN l) w):=by
 obtain ⟨i0,hi,hz0,hz1,hz2⟩:=info_parts info_grp
 have hi:=(yE 56).trans hi
 have hU:qf.underlying 24=some (.slice 56):=(qY _).trans Tryz.underlying24
 have hnil:=fun w=>Lib.run_eql_slice_nil (P:=qf) w 24 56 (some ⟨b,o,none⟩) l.length c 0 0 hU
 have HP:=Lib.hid (qaU hP)
 have HN:=Lib.hid (yo l)
 have HO:Hid (∀u∈qN l,u.oneCell'=true):=Lib.hid fun u hu=>by
  obtain ⟨x,_,hx⟩:=List.mem_flatMap.1 hu
  simp at hx;rcases hx with rfl | rfl | rfl <;> rfl
 clear hP
 go_enter s116,ntmps116
 go_wp2_with (at_builtin;refine wpList_append_own _ rfl (.tmp 5) (.tmp 6) 24 rfl w.heap.size 56 i0 (.agg #[.string ⟨#[]⟩,.int .i64 0,.slice none 0 0]) 3 48 hU hi hz0 hz1 hz2 rfl (by decide) _ 0 [] rfl (World.ownsRow_made w #[] 0 (Nat.le_refl _) (by unfold maxLen;omega) rfl) ⟨b,o,none⟩ l.length c (qN l) rfl HN.out (fun j u hu=>qi (HP.out j u hu)) HO.out (by unfold maxLen;omega) (by omega) (by simp) ?_;intro v1 w3 hown1 hgrow1 hnil1)
 go_ret
 obtain ⟨g,cap,e1,e2,e3,e4,e5⟩:=YG hown1 (fun e=>by have:=(hnil1.1 e).1;cases this)
 rw [Nat.zero_add] at e1 e4
 exact ⟨g,cap,by rw [e1];rfl,e2,e3,e4,by simpa using e5,((Below.refl _ w).alloc (Nat.le_refl _) _).grown hgrow1 (by simp) (fun k hk=>by cases hk;exact Nat.le_refl _)⟩
end Go.Proofs.Tryz
namespace Go.Proofs.Tryz
open Go Go.Load Go.RowKit
def SameG (g g':Grp):Prop:=g'.name=g.name∧g'.trunks=g.trunks∧g'.traffic=g.traffic
def zI (l l':List Grp):Prop:=l'.length=l.length∧∀(i:Nat) g g',l[i]? = some g→l'[i]? = some g'→SameG g g'
theorem zI.refl (l:List Grp):zI l l:=⟨rfl,fun i g g' h h'=>by
 have e:=Option.some.inj (h.symm.trans h')
 subst e
 exact ⟨rfl,rfl,rfl⟩⟩
structure OwnGs (base:Nat) (W:World) (g:Nat) (l:List Grp) (k:Nat) (tb:Nat→Nat):Prop where
 lo:base≤g
 hi:g < W.heap.size
 row:OwnAt W g (qN l)
 ta:∀i x,i < k→l[i]? = some x→x.ta=some ⟨tb i,0,none⟩∧base≤tb i∧tb i < W.heap.size∧tb i≠g∧OwnAt W (tb i) (qK x.traffic)∧x.traffic.length≤x.tc
 apart:∀i j,i < k→j < k→i≠j→tb i≠tb j
theorem OwnGs.keep {base g k:Nat} {W W1:World} {l:List Grp} {tb:Nat→Nat} (h:OwnGs base W g l k tb) (hB:Below W.heap.size W W1):OwnGs base W1 g l k tb :=
 ⟨h.lo,Nat.lt_of_lt_of_le h.hi hB.size,h.row.keep hB,fun i x hi hx=>let ⟨a,b,c,d,e,f⟩:=h.ta i x hi hx;⟨a,b,Nat.lt_of_lt_of_le c hB.size,d,e.keep hB,f⟩,h.apart⟩
theorem OwnAt.set {W:World} {g j:Nat} {xs:List Value} {v:Value} (h:OwnAt W g xs) (hj:j < xs.length):OwnAt (W.setCell ⟨g,j,none⟩ v) g (xs.set j v):=fun i u hu=>by
 by_cases e:j=i
 ·subst e
  rw [List.getElem?_set_self hj] at hu
  obtain rfl:=Option.some.inj hu
  obtain ⟨a,b⟩:=h j _ (List.getElem?_eq_getElem hj)
  exact ⟨ze (qA a),by simpa using b⟩
 ·rw [List.getElem?_set_ne e] at hu
  obtain ⟨a,b⟩:=h i u hu
  exact ⟨qd (by simp [e]) a,by simpa using b⟩
theorem OwnAt.other {W:World} {g b j:Nat} {xs:List Value} {v:Value} (h:OwnAt W g xs) (hb:b≠g):OwnAt (W.setCell ⟨b,j,none⟩ v) g xs:=fun i u hu =>
 ⟨qd (fun e=>hb (congrArg Addr.block e)) (h i u hu).1,by simpa using (h i u hu).2⟩
theorem jK:∀(l:List Grp) (k:Nat) (x:Grp) (ta:Option Addr) (tc:Nat),l[k]? = some x→qN (l.set k { x with ta,tc })=(qN l).set (k * 3+2) (.slice ta x.traffic.length tc)
 | [],k,x,ta,tc,h=>by simp at h
 | y :: l,0,x,ta,tc,h=>by
   obtain rfl:y=x:=by simpa using h
   rfl
 | y :: l,k+1,x,ta,tc,h=>by
   have ih:=jK l k x ta tc (by simpa using h)
   have e:(k+1) * 3+2=(k * 3+2)+3:=by omega
   rw [e]
   show [Value.string y.name,.int .i64 y.trunks,.slice y.ta y.traffic.length y.tc] ++ qN (l.set k _)=_
   rw [ih]
   rfl
theorem OwnAt.five {W:World} {g b:Nat} {xs:List Value} {v0 v1 v2 v3 v4:Value} (h:OwnAt W g xs) (hb:b≠g):OwnAt (set5 W b v0 v1 v2 v3 v4) g xs:=((((h.other hb).other hb).other hb).other hb).other hb
theorem OwnGs.five {base g k b:Nat} {W:World} {l:List Grp} {tb:Nat→Nat} {v0 v1 v2 v3 v4:Value} (h:OwnGs base W g l k tb) (hb:b≠g) (hn:∀i y,i < k→l[i]? = some y→b≠tb i):OwnGs base (set5 W b v0 v1 v2 v3 v4) g l k tb :=
 ⟨h.lo,by have:=h.hi;simpa [set5] using this,h.row.five hb,fun i y hi hy=>let ⟨p,q,r,s,o,f⟩:=h.ta i y hi hy;⟨p,q,by simpa [set5] using r,s,o.five (hn i y hi hy),f⟩,h.apart⟩
theorem Yn {W:World} {p:Addr} {v:Value} (h:W.cell? p=some v):W.drew.cell? p=some v:=h
theorem qaP {W:World} {p:Addr} (h:W.frozen? p=false):W.drew.frozen? p=false:=h
theorem OwnGs.mono {a b g k:Nat} {W:World} {l:List Grp} {tb:Nat→Nat} (h:OwnGs b W g l k tb) (hab:a≤b):OwnGs a W g l k tb :=
 ⟨Nat.le_trans hab h.lo,h.hi,h.row,fun i y hi hy=>let ⟨p,q,r⟩:=h.ta i y hi hy;⟨p,Nat.le_trans hab q,r⟩,h.apart⟩
theorem OwnGs.step {base g k t tc:Nat} {W:World} {l:List Grp} {tb:Nat→Nat} {x:Grp} (h:OwnGs base W g l k tb) (hx:l[k]? = some x) (ht1:base≤t) (ht2:t < W.heap.size) (htg:t≠g) (hta:∀i,i < k→t≠tb i) (ho:OwnAt W t (qK x.traffic)) (hc:x.traffic.length≤tc) :
 OwnGs base (W.setCell ⟨g,k * 3+2,none⟩ (.slice (some ⟨t,0,none⟩) x.traffic.length tc)) g (l.set k { x with ta:=some ⟨t,0,none⟩,tc:=tc }) (k+1) (fun i=>if i=k then t else tb i):=by
 have hk:k < l.length:=(List.getElem?_eq_some_iff.1 hx).1
 refine ⟨h.lo,by simpa using h.hi,?_,fun i y hi hy=>?_,fun i j hi hj hij=>?_⟩
 ·rw [jK l k x _ _ hx]
  exact h.row.set (by rw [yo];omega)
 ·by_cases e:i=k
  ·subst e
   rw [List.getElem?_set_self hk] at hy;cases hy
   have e:(if i=i then t else tb i)=t:=if_pos rfl
   refine ⟨?_,?_,?_,?_,?_,hc⟩
   ·rw [e]
   ·rw [e];exact ht1
   ·rw [e];simpa using ht2
   ·rw [e];exact htg
   ·rw [e];exact ho.other htg.symm
  ·rw [List.getElem?_set_ne (Ne.symm e)] at hy
   obtain ⟨a,b,c,d,o,f⟩:=h.ta i y (by omega) hy
   simp only [if_neg e]
   exact ⟨a,b,by simpa using c,d,o.other (Ne.symm d),f⟩
 ·show (if i=k then t else tb i)≠(if j=k then t else tb j)
  by_cases e1:i=k
  ·subst e1
   rw [if_pos rfl,if_neg (Ne.symm hij)]
   exact hta j (by omega)
  ·rw [if_neg e1]
   by_cases e2:j=k
   ·subst e2
    rw [if_pos rfl]
    exact Ne.symm (hta i (by omega))
   ·rw [if_neg e2]
    exact h.apart i j (by omega) (by omega) hij
def OwnP (base:Nat) (B:Bk) (w':World) (e:Ending):Prop:=∃g gc l tb,e=.returned (bv { B with gs:=l,ga:=some ⟨g,0,none⟩,gc:=gc })∧zI B.gs l∧OwnGs base w' g l l.length tb∧l.length≤gc
def qaB (w:World) (lim:Int×Int) (gr hr:Int) (g n gc:Nat) (W:World):Prop :=
 W.cell? ⟨w.heap.size,0,none⟩=some (.int .i64 lim.1)∧W.cell? ⟨w.heap.size,1,none⟩=some (.int .i64 lim.2)∧W.cell? ⟨w.heap.size,2,none⟩=some (.int .i64 gr)∧W.cell? ⟨w.heap.size,3,none⟩=some (.int .i64 hr)∧W.cell? ⟨w.heap.size,4,none⟩=some (.slice (some ⟨g,0,none⟩) n gc) ∧
  ∀j,j < 5→∃v,W.cell? ⟨w.heap.size+1,j,none⟩=some v∧W.frozen? ⟨w.heap.size+1,j,none⟩=false
theorem qaB.keep {w W W1:World} {lim:Int×Int} {gr hr:Int} {g n gc:Nat} (h:qaB w lim gr hr g n gc W) (hB:Below W.heap.size W W1):qaB w lim gr hr g n gc W1:=by
 obtain ⟨a,b,c,d,e,f⟩:=h
 exact ⟨qb _ hB a,qb _ hB b,qb _ hB c,qb _ hB d,qb _ hB e,fun j hj=>let ⟨v,h1,h2⟩:=f j hj;⟨v,qb _ hB h1,qg _ hB h1 h2⟩⟩
theorem qaB.put {w W:World} {lim:Int×Int} {gr hr:Int} {g n gc:Nat} (h:qaB w lim gr hr g n gc W) (j:Nat) (v:Value) (hg:w.heap.size+1 < g):qaB w lim gr hr g n gc (W.setCell ⟨g,j,none⟩ v):=by
 obtain ⟨a,b,c,d,e,f⟩:=h
 have n1:∀p b q,b≤w.heap.size+1→(⟨g,p,none⟩:Addr)≠⟨b,q,none⟩:=fun p b q hb h=>by have:=congrArg Addr.block h;simp only at this;omega
 exact ⟨qd (n1 _ _ _ (by omega)) a,qd (n1 _ _ _ (by omega)) b,qd (n1 _ _ _ (by omega)) c,qd (n1 _ _ _ (by omega)) d,qd (n1 _ _ _ (by omega)) e,fun j hj=>let ⟨v,h1,h2⟩:=f j hj;⟨v,qd (n1 _ _ _ (by omega)) h1,by simpa using h2⟩⟩
set_option maxHeartbeats 4000000 in
set_option maxRecDepth 100000 in
theorem qbf (B:Bk) (w:World) (h:BookAt w B) (h1:1≤B.gs.length) (ht:∀g∈B.gs,1≤g.traffic.length) :
 Calls qf 66 #[bv B] w fun e w'=>OwnP w.heap.size B w' e∧Below w.heap.size w w':=by
 obtain ⟨b,o,hga,hcs⟩:=h.row h1
 have hsm:=h.small
 have HT:=Lib.hid ht
 have HB:=Lib.hid h
 have HC:=Lib.hid hcs
 obtain ⟨lim,gr,hr,gs,ga,gc⟩:=B
 simp only at hga h1 hsm
 subst hga
 have hl20:=hsm.1
 have hlb:b < w.heap.size:=lt_of_cell (hcs 0 _ (List.getElem?_eq_getElem (show 0 < gs.length by omega))).1
 clear h ht hcs hsm
 unfold bv
 have hclG:=fun W (hB:Below w.heap.size w W)=>qcB gs b o gc h1 hl20 W (HC.out.keep hB)
 go_enter s66,ntmps66
 go_wp2_with (go_at_call 116;refine (hclG _ (by go_grown)).mono ?_;rintro e w1 ⟨g,cg,rfl,hg1,hg2,hg3,ho,hB⟩;have hBw:=bcl (w:=w) (by go_grown) hB;obtain ⟨hc,hg⟩:=qx hB;(simp at hg1);have hs1:w.heap.size < w1.heap.size:=(by omega);have hs2:w.heap.size+1 < w1.heap.size:=(by omega);have q4:w1.cell? ⟨w.heap.size,4,none⟩=some (.slice (some ⟨b,o,none⟩) gs.length gc):=(by rw [hc _ _ (by simp <;> omega)];go_cell);have q4':=ze (v:=.slice (some ⟨g,0,none⟩) gs.length cg) (qA q4);clear hB)
 have p0:w1.cell? ⟨w.heap.size,0,none⟩=some (.int .i64 lim.1):=by rw [hc _ _ (by simp <;> omega)];go_cell
 have p1:w1.cell? ⟨w.heap.size,1,none⟩=some (.int .i64 lim.2):=by rw [hc _ _ (by simp <;> omega)];go_cell
 have p2:w1.cell? ⟨w.heap.size,2,none⟩=some (.int .i64 gr):=by rw [hc _ _ (by simp <;> omega)];go_cell
 have p3:w1.cell? ⟨w.heap.size,3,none⟩=some (.int .i64 hr):=by rw [hc _ _ (by simp <;> omega)];go_cell
 have r0:w1.cell? ⟨w.heap.size+1,0,none⟩=some (.int .i64 0):=by rw [hc _ _ (by simp <;> omega)];go_cell
 have r1:w1.cell? ⟨w.heap.size+1,1,none⟩=some (.int .i64 0):=by rw [hc _ _ (by simp <;> omega)];go_cell
 have r2:w1.cell? ⟨w.heap.size+1,2,none⟩=some (.int .i64 0):=by rw [hc _ _ (by simp <;> omega)];go_cell
 have r3:w1.cell? ⟨w.heap.size+1,3,none⟩=some (.int .i64 0):=by rw [hc _ _ (by simp <;> omega)];go_cell
 have r4:w1.cell? ⟨w.heap.size+1,4,none⟩=some (.slice none 0 0):=by rw [hc _ _ (by simp <;> omega)];go_cell
 have f0:∀j,j < 5→w1.frozen? ⟨w.heap.size+1,j,none⟩=false:=fun j hj=>by rw [hg _ _ (by simp <;> omega)];rcases (show j=0∨j=1∨j=2∨j=3∨j=4 by omega) with rfl | rfl | rfl | rfl | rfl <;> go_cell
 obtain ⟨W,hW⟩:∃W,w1.setCell ⟨w.heap.size,4,none⟩ (.slice (some ⟨g,0,none⟩) gs.length cg)=W:=⟨_,rfl⟩
 have n1:∀b p q,b≠w.heap.size→(⟨w.heap.size,p,none⟩:Addr)≠⟨b,q,none⟩:=fun b p q hb h=>hb (congrArg Addr.block h).symm
 have HW:qaB w lim gr hr g gs.length cg W:=by
  subst hW
  refine ⟨qd (by simp) p0,qd (by simp) p1,qd (by simp) p2,qd (by simp) p3,q4',fun j hj=>?_⟩
  rcases (show j=0∨j=1∨j=2∨j=3∨j=4 by omega) with rfl | rfl | rfl | rfl | rfl
  ·exact ⟨_,qd (n1 _ _ _ (by omega)) r0,by simpa using f0 0 hj⟩
  ·exact ⟨_,qd (n1 _ _ _ (by omega)) r1,by simpa using f0 1 hj⟩
  ·exact ⟨_,qd (n1 _ _ _ (by omega)) r2,by simpa using f0 2 hj⟩
  ·exact ⟨_,qd (n1 _ _ _ (by omega)) r3,by simpa using f0 3 hj⟩
  ·exact ⟨_,qd (n1 _ _ _ (by omega)) r4,by simpa using f0 4 hj⟩
 have HBW:Below w.heap.size w W:=by subst hW;exact hBw.setCell (Nat.le_refl _) _
 have HG:OwnGs (w.heap.size+2) W g gs 0 (fun _=>0):=⟨by omega,by subst hW;simpa using hg2,by subst hW;exact ho.other (by omega),fun i _ hi=>absurd hi (by omega),fun i _ hi=>absurd hi (by omega)⟩
 rw [hW]
 clear hW p0 p1 p2 p3 r0 r1 r2 r3 r4 f0 q4 q4' hc hg ho hBw hg2 hs1 hs2 n1
 go_loopw [14] (fun i wr=>∃k:Nat,i=.int .i64 k∧k≤gs.length∧Below w.heap.size w wr∧qaB w lim gr hr g gs.length cg wr∧∃l tb,zI gs l∧(∀j,k≤j→l[j]? = gs[j]?)∧OwnGs (w.heap.size+2) wr g l k tb) (fun i _=>gs.length - (intOf i).toNat)
 case atStart=>exact ⟨0,rfl,by omega,HBW,HW,gs,_,.refl _,fun _ _=>rfl,HG⟩
 case round =>
  clear HW HBW HG hclG
  obtain ⟨k,rfl,hk,hBr,hOB,l,tb,hSame,hRest,hOG⟩:=hrel
  by_cases hlt:k < gs.length
  ·obtain ⟨x,hx⟩:∃x,gs[k]? = some x:=⟨gs[k],by simp [hlt]⟩
   have hm:x∈gs:=List.mem_of_getElem? hx
   have hlx:=(hRest k (Nat.le_refl _)).trans hx
   obtain ⟨c0,f0⟩:=hOG.row _ _ (zq l k x hlx).2.2
   obtain ⟨xb,xo,hxa,hxp⟩:=HB.out.traf x hm (HT.out x hm)
   have hcl:∀W,Below w.heap.size w W→Calls qf 117 #[.slice (some ⟨xb,xo,none⟩) x.traffic.length x.tc] W (qdx x.traffic.length (qK x.traffic) W):=fun W hB=>qcA x.traffic xb xo x.tc (HT.out x hm) ((HB.out.small.2 x hm).1) W (hxp.keep hB)
   have q4:=hOB.2.2.2.2.1
   have hg2:=hOG.hi
   rw [hxa] at c0
   have HX:=Lib.hid (And.intro hlx hxa)
   clear hx hlx hxp hxa
   have hk20:(k:Int) < (gs.length:Int):=by omega
   have hk0:(0:Int)≤(k:Int):=Int.natCast_nonneg k
   go_wp2
   have hfin:∀(w2:World) (t ct:Nat),Below wr.heap.size wr w2→wr.heap.size≤t→t < w2.heap.size→x.traffic.length≤ct→OwnAt w2 t (qK x.traffic)→∃k':Nat,Value.int .i64 ((k:Int)+1)=.int .i64 k'∧k'≤gs.length∧Below w.heap.size w (w2.setCell ⟨g,k * 3+2,none⟩ (.slice (some ⟨t,0,none⟩) x.traffic.length ct))∧qaB w lim gr hr g gs.length cg (w2.setCell ⟨g,k * 3+2,none⟩ (.slice (some ⟨t,0,none⟩) x.traffic.length ct))∧∃l tb,zI gs l∧(∀j,k'≤j→l[j]? = gs[j]?)∧OwnGs (w.heap.size+2) (w2.setCell ⟨g,k * 3+2,none⟩ (.slice (some ⟨t,0,none⟩) x.traffic.length ct)) g l k' tb:=fun w2 t ct hB ht1 ht2 ht3 hto=>by
    have hlx:=HX.out.1
    have hkl:k < l.length:=(List.getElem?_eq_some_iff.1 hlx).1
    refine ⟨k+1,rfl,by omega,(bcl hBr hB).setCell (by show w.heap.size≤g;omega) _,(hOB.keep hB).put _ _ (by omega),_,_,⟨?_,fun i y y' hy hy'=>?_⟩,fun j hj=>?_,(hOG.keep hB).step hlx (by omega) ht2 (by omega) (fun i hi=>?_) hto ht3⟩
    ·rw [List.length_set];exact hSame.1
    ·by_cases e:k=i
     ·subst e
      rw [List.getElem?_set_self hkl] at hy'
      obtain rfl:=Option.some.inj hy'
      have:=hSame.2 k y x hy hlx
      exact ⟨this.1,this.2.1,this.2.2⟩
     ·rw [List.getElem?_set_ne e] at hy'
      exact hSame.2 i y y' hy hy'
    ·rw [List.getElem?_set_ne (by omega)];exact hRest j (by omega)
    ·obtain ⟨y,hy⟩:∃y,l[i]? = some y:=⟨l[i]'(by omega),by simp⟩
     have:=(hOG.ta i y hi hy).2.2.1
     omega
   go_region_with (go_at_call 117;refine (hcl _ (by first | assumption | go_grown)).mono ?_;rintro e w2 ⟨t,ct,rfl,ht1,ht2,ht3,hto,hB⟩;have k0:=qb _ hB (Yn c0);have kf:=qg _ hB (Yn c0) (qaP f0);have k4:=qb _ hB (Yn q4))
   all_goals (go_wp2;go_roundw;(case rel=>exact hfin _ _ _ (Below.call (B:=wr.heap.size) (by go_grown) hB (by simp)) ht1 ht2 ht3 hto);(case measure=>simp [intOf];omega))
  ·obtain rfl:k=gs.length:=by omega
   obtain ⟨p0,p1,p2,p3,p4,r⟩:=hOB
   obtain ⟨v0,r0,f0⟩:=r 0 (by omega)
   obtain ⟨v1,r1,f1⟩:=r 1 (by omega)
   obtain ⟨v2,r2,f2⟩:=r 2 (by omega)
   obtain ⟨v3,r3,f3⟩:=r 3 (by omega)
   obtain ⟨v4,r4,f4⟩:=r 4 (by omega)
   go_wp2
   refine qfs results66 jU jb rfl r0 r1 r2 r3 r4 ⟨⟨g,cg,l,tb,?_,hSame,?_,?_⟩,Below.set5 hBr (Nat.le_succ _)⟩
   ·unfold bv;rw [← hSame.1]
   ·rw [hSame.1]
    refine OwnGs.mono ?_ (show w.heap.size≤w.heap.size+2 by omega)
    exact hOG.five (by omega) (fun i y hi hy=>by have:=(hOG.ta i y hi hy).2.1;omega)
   ·rw [hSame.1];exact hg3
theorem qad {W:World} {g:Nat} {l:List Grp} (h:OwnAt W g (qN l)):zG W g 0 l:=fun i x hx=>by
 have e:=zq l i x hx
 rw [Nat.zero_add]
 exact ⟨(h _ _ e.1).1,(h _ _ e.2.1).1,(h _ _ e.2.2).1⟩
theorem qae {W:World} {g:Nat} {l:List (Int×Int)} (h:OwnAt W g (qK l)):qL W g 0 l:=fun i x hx=>by
 have e:=yx l i x hx
 rw [Nat.zero_add]
 exact ⟨(h _ _ e.1).1,(h _ _ e.2).1⟩
theorem Yj {base g gc:Nat} {W:World} {B:Bk} {l:List Grp} {tb:Nat→Nat} (hS:zI B.gs l) (hO:OwnGs base W g l l.length tb) (hc:l.length≤gc) (hsm:B.gs.length≤20∧∀x∈B.gs,x.traffic.length≤20∧x.name.size≤100) :
 BookAt W { B with gs:=l,ga:=some ⟨g,0,none⟩,gc:=gc }:=by
 refine ⟨fun _=>⟨g,0,rfl,qad hO.row⟩,fun x hx _=>?_,⟨by rw [hS.1];exact hsm.1,fun x hx=>?_⟩,hc⟩
 ·obtain ⟨i,hi,rfl⟩:=List.getElem_of_mem hx
  obtain ⟨a,_,_,_,b,_⟩:=hO.ta i l[i] hi (by simp)
  exact ⟨tb i,0,a,qae b⟩
 ·obtain ⟨i,hi,rfl⟩:=List.getElem_of_mem hx
  have hi':i < B.gs.length:=by have:=hS.1;simp only at hi;omega
  obtain ⟨a,_,b⟩:=hS.2 i B.gs[i] l[i] (by simp) (by simp)
  rw [a,b]
  exact hsm.2 _ (List.getElem_mem _)
theorem zf (W:World) (cs:Array Value) (ty:TypeId) (j:Nat) (h:j < cs.size):(W.alloc (.cells cs ty)).cell? ⟨W.heap.size,j,none⟩=some cs[j]:=by
 unfold World.cell? World.alloc;simp [h]
theorem Xr (W:World) (cs:Array Value) (ty:TypeId) (j:Nat) (h:j < cs.size):(W.alloc (.cells cs ty)).frozen? ⟨W.heap.size,j,none⟩=false:=by
 unfold World.frozen? World.alloc;simp
theorem QM {b:Nat} (W:World) (cs:Array Value) (ty:TypeId) (j:Nat) (h:j < cs.size) (e:b=W.heap.size):(W.alloc (.cells cs ty)).cell? ⟨b,j,none⟩=some cs[j]:=by subst e;exact zf W cs ty j h
theorem qbd {b:Nat} (W:World) (cs:Array Value) (ty:TypeId) (j:Nat) (h:j < cs.size) (e:b=W.heap.size):(W.alloc (.cells cs ty)).frozen? ⟨b,j,none⟩=false:=by subst e;exact Xr W cs ty j h
theorem qaB.putAt {w W:World} {lim:Int×Int} {gr hr:Int} {g n gc c:Nat} (h:qaB w lim gr hr g n gc W) (j:Nat) (v:Value) (hg:w.heap.size+1 < c):qaB w lim gr hr g n gc (W.setCell ⟨c,j,none⟩ v):=by
 obtain ⟨a,b,c',d,e,f⟩:=h
 have n1:∀p b q,b≤w.heap.size+1→(⟨c,p,none⟩:Addr)≠⟨b,q,none⟩:=fun p b q hb h=>by have:=congrArg Addr.block h;simp only at this;omega
 exact ⟨qd (n1 _ _ _ (by omega)) a,qd (n1 _ _ _ (by omega)) b,qd (n1 _ _ _ (by omega)) c',qd (n1 _ _ _ (by omega)) d,qd (n1 _ _ _ (by omega)) e,fun j hj=>let ⟨v,h1,h2⟩:=f j hj;⟨v,qd (n1 _ _ _ (by omega)) h1,by simpa using h2⟩⟩
def grw (r:Int) (x:Int×Int):Int×Int:=if yj x then ((x.1 * (100+r)+99) / 100,x.2) else x
def ZO (r:Int) (g:Grp):Grp:={ g with traffic:=g.traffic.map (grw r) }
def Yy (B:Bk):Bk:={ B with gs:=B.gs.map (ZO B.growth) }
structure GrowAt (base:Nat) (W:World) (g:Nat) (l:List Grp) (tb:Nat→Nat) (T:Nat→List (Int×Int)):Prop where
 lo:base≤g
 hi:g < W.heap.size
 row:OwnAt W g (qN l)
 ta:∀i x,l[i]? = some x→x.ta=some ⟨tb i,0,none⟩∧base≤tb i∧tb i < W.heap.size∧tb i≠g∧OwnAt W (tb i) (qK (T i))∧(T i).length=x.traffic.length∧x.traffic.length≤x.tc
 apart:∀i j,i < l.length→j < l.length→i≠j→tb i≠tb j
theorem GrowAt.keep {base g:Nat} {W W1:World} {l:List Grp} {tb:Nat→Nat} {T:Nat→List (Int×Int)} (h:GrowAt base W g l tb T) (hB:Below W.heap.size W W1):GrowAt base W1 g l tb T :=
 ⟨h.lo,Nat.lt_of_lt_of_le h.hi hB.size,h.row.keep hB,fun i x hx=>let ⟨a,b,c,d,e,f⟩:=h.ta i x hx;⟨a,b,Nat.lt_of_lt_of_le c hB.size,d,e.keep hB,f⟩,h.apart⟩
theorem QP:∀(l:List (Int×Int)) (j:Nat) (x y:Int×Int),l[j]? = some x→y.2=x.2→(qK l).set (j * 2) (.int .i64 y.1)=qK (l.set j y)
 | [],j,x,y,h,_=>by simp at h
 | z :: l,0,x,y,h,e=>by
   obtain rfl:z=x:=by simpa using h
   simp [qK,e]
 | z :: l,j+1,x,y,h,e=>by
   have ih:=QP l j x y (by simpa using h) e
   rw [show (j+1) * 2=j * 2+2 by omega]
   show [Value.int .i64 z.1,.int .i64 z.2] ++ (qK l).set (j * 2) _=[Value.int .i64 z.1,.int .i64 z.2] ++ qK (l.set j y)
   rw [ih]
theorem GrowAt.step {base g k j:Nat} {W:World} {l:List Grp} {tb:Nat→Nat} {T:Nat→List (Int×Int)} {x y:Int×Int} {G:Grp} (h:GrowAt base W g l tb T) (hk:l[k]? = some G) (hx:(T k)[j]? = some x) (e:y.2=x.2) :
 GrowAt base (W.setCell ⟨tb k,j * 2,none⟩ (.int .i64 y.1)) g l tb (fun i=>if i=k then (T k).set j y else T i):=by
 have hkl:k < l.length:=(List.getElem?_eq_some_iff.1 hk).1
 have hjl:j < (T k).length:=(List.getElem?_eq_some_iff.1 hx).1
 refine ⟨h.lo,by simpa using h.hi,h.row.other (h.ta k G hk).2.2.2.1,fun i z hz=>?_,h.apart⟩
 obtain ⟨a,b,c,d,o,f,p⟩:=h.ta i z hz
 refine ⟨a,b,by simpa using c,d,?_,?_,p⟩
 ·by_cases q:i=k
  ·subst q
   rw [if_pos rfl,← QP _ _ x y hx e]
   exact o.set (by rw [yQ];omega)
  ·rw [if_neg q]
   exact o.other (fun e=>h.apart i k (List.getElem?_eq_some_iff.1 hz).1 hkl q e.symm)
 ·by_cases q:i=k
  ·subst q;rw [if_pos rfl,List.length_set];exact f
  ·rw [if_neg q];exact f
theorem GrowAt.five {base g b:Nat} {W:World} {l:List Grp} {tb:Nat→Nat} {T:Nat→List (Int×Int)} {v0 v1 v2 v3 v4:Value} (h:GrowAt base W g l tb T) (hb:b < base):GrowAt base (set5 W b v0 v1 v2 v3 v4) g l tb T :=
 ⟨h.lo,by have:=h.hi;simpa [set5] using this,h.row.five (by have:=h.lo;omega),fun i y hy=>let ⟨p,q,r,s,o,f⟩:=h.ta i y hy;⟨p,q,by simpa [set5] using r,s,o.five (by omega),f⟩,h.apart⟩
theorem XW {base g:Nat} {W:World} {l:List Grp} {tb:Nat→Nat} (h:OwnGs base W g l l.length tb):GrowAt base W g l tb (fun i=>match l[i]? with | some x=>x.traffic | none=>[]) :=
 ⟨h.lo,h.hi,h.row,fun i x hx=>by
   obtain ⟨a,b,c,d,o,f⟩:=h.ta i x (List.getElem?_eq_some_iff.1 hx).1 hx
   simp only [hx]
   exact ⟨a,b,c,d,o,trivial,f⟩,h.apart⟩
theorem qeh (r:Int) (l:List Grp):qN (l.map (ZO r))=qN l:=by
 induction l with
 | nil=>rfl
 | cons x l ih =>
   show [Value.string x.name,.int .i64 x.trunks,.slice x.ta (x.traffic.map (grw r)).length x.tc] ++ qN (l.map (ZO r))=_
   rw [ih,List.length_map];rfl
theorem qbg {base g:Nat} {r:Int} {W:World} {l:List Grp} {tb:Nat→Nat} {T:Nat→List (Int×Int)} (h:GrowAt base W g l tb T) (hT:∀i x,l[i]? = some x→T i=x.traffic.map (grw r)):OwnGs base W g (l.map (ZO r)) (l.map (ZO r)).length tb:=by
 refine ⟨h.lo,h.hi,by rw [qeh];exact h.row,fun i x _ hx=>?_,fun i j hi hj=>h.apart i j (by simpa using hi) (by simpa using hj)⟩
 rw [List.getElem?_map] at hx
 obtain ⟨y,hy,rfl⟩:=Option.map_eq_some_iff.1 hx
 obtain ⟨a,b,c,d,o,f,p⟩:=h.ta i y hy
 rw [hT i y hy] at o
 exact ⟨a,b,c,d,o,by simpa [ZO] using p⟩
theorem YN {r:Int} {l l':List Grp} (h:zI l l'):zI (l.map (ZO r)) (l'.map (ZO r)):=by
 refine ⟨by simpa using h.1,fun i a b ha hb=>?_⟩
 rw [List.getElem?_map] at ha hb
 obtain ⟨x,hx,rfl⟩:=Option.map_eq_some_iff.1 ha
 obtain ⟨y,hy,rfl⟩:=Option.map_eq_some_iff.1 hb
 obtain ⟨p,q,s⟩:=h.2 i x y hx hy
 exact ⟨p,q,by simp [ZO,s]⟩
set_option maxHeartbeats 4000000 in
set_option maxRecDepth 100000 in
theorem JO (B:Bk) (w:World) (h:BookAt w B) (h1:1≤B.gs.length) (ht:∀g∈B.gs,1≤g.traffic.length) (hr0:0≤B.growth) (hr1:B.growth≤1000) :
 Calls qf 67 #[bv B] w fun e w'=>OwnP w.heap.size (Yy B) w' e∧Below w.heap.size w w':=by
 have hsm:=h.small
 have hown:=fun W (hB:Below w.heap.size w W)=>qbf B W (h.keep hB) h1 ht
 have H:=Lib.hid h
 obtain ⟨lim,gr,hr,gs,ga,gc⟩:=B
 simp only at h1 hsm ht hr0 hr1
 have hl20:=hsm.1
 have HT:=Lib.hid hsm.2
 have HN:=Lib.hid ht
 clear h hsm ht
 simp only [bv] at hown ⊢
 go_enter s67,ntmps67
 go_wp2
 go_at_call 66
 refine (hown _ (by go_grown)).mono ?_
 rintro e w1 ⟨⟨g,cg,l,tb,rfl,hS,hO,hcl⟩,hB⟩
 have hBw:=bcl (w:=w) (by go_grown) hB
 have hs:=hB.size
 simp at hs
 obtain ⟨hc,hg⟩:=qx hB
 have q0:∀j,j < 5→∃v,w1.cell? ⟨w.heap.size,j,none⟩=some v∧w1.frozen? ⟨w.heap.size,j,none⟩=false:=fun j hj =>
  ⟨_,qb _ hB (qi (zf w _ _ j (by exact hj))),qg _ hB (qi (zf w _ _ j (by exact hj))) (qo (zf w _ _ j (by exact hj)) (Xr w _ _ j (by exact hj)))⟩
 have r0:∀j,j < 5→∃v,w1.cell? ⟨w.heap.size+1,j,none⟩=some v∧w1.frozen? ⟨w.heap.size+1,j,none⟩=false:=fun j hj =>
  ⟨_,qb _ hB (QM _ _ _ j (by exact hj) (by simp)),qg _ hB (QM _ _ _ j (by exact hj) (by simp)) (qbd _ _ _ j (by exact hj) (by simp))⟩
 obtain ⟨v0,e0,f0⟩:=q0 0 (by omega)
 obtain ⟨v1,e1,f1⟩:=q0 1 (by omega)
 obtain ⟨v2,e2,f2⟩:=q0 2 (by omega)
 obtain ⟨v3,e3,f3⟩:=q0 3 (by omega)
 obtain ⟨v4,e4,f4⟩:=q0 4 (by omega)
 clear hc hg hB q0
 simp only [bv]
 go_wp2
 obtain ⟨W,hW⟩:∃W,((((w1.setCell ⟨w.heap.size,0,none⟩ (.int .i64 lim.1)).setCell ⟨w.heap.size,1,none⟩ (.int .i64 lim.2)).setCell ⟨w.heap.size,2,none⟩ (.int .i64 gr)).setCell ⟨w.heap.size,3,none⟩ (.int .i64 hr)).setCell ⟨w.heap.size,4,none⟩ (.slice (some ⟨g,0,none⟩) l.length cg)=W:=⟨_,rfl⟩
 rw [hW]
 have hWs:W=set5 w1 w.heap.size (.int .i64 lim.1) (.int .i64 lim.2) (.int .i64 gr) (.int .i64 hr) (.slice (some ⟨g,0,none⟩) l.length cg):=hW.symm
 have hp5:=put5 (.int .i64 lim.1) (.int .i64 lim.2) (.int .i64 gr) (.int .i64 hr) (.slice (some ⟨g,0,none⟩) l.length cg) e0 e1 e2 e3 e4
 have HW:qaB w lim gr hr g l.length cg W:=by
  rw [hWs]
  exact ⟨hp5.1,hp5.2.1,hp5.2.2.1,hp5.2.2.2.1,hp5.2.2.2.2,fun j hj=>let ⟨v,a,b⟩:=r0 j hj;⟨v,(qM (by simp)).trans a,by simpa [set5] using b⟩⟩
 have HBW:Below w.heap.size w W:=by rw [hWs];exact Below.set5 hBw (Nat.le_refl _)
 have HG:GrowAt (w.heap.size+2) W g l tb (fun i=>match l[i]? with | some x=>x.traffic | none=>[]):=by rw [hWs];exact (XW (hO.mono (by simp))).five (by omega)
 clear hW hWs hp5 e0 e1 e2 e3 e4 f0 f1 f2 f3 f4 r0 hBw hO hs hown
 have hll:=Lib.hid (show l.length=gs.length from hS.1)
 have hl20':l.length≤20:=by rw [hll.out];exact hl20
 have hx20:∀(i:Nat) (x:Grp),l[i]? = some x→x.traffic.length≤20:=fun i x hx=>by
  have hi:i < gs.length:=by have:=(List.getElem?_eq_some_iff.1 hx).1;have:=hll.out;omega
  rw [(hS.2 i gs[i] x (by simp) hx).2.2]
  exact (HT.out _ (List.getElem_mem _)).1
 go_loopw [13] (fun i wr=>∃k:Nat,i=.int .i64 k∧k≤l.length∧Below w.heap.size w wr∧qaB w lim gr hr g l.length cg wr∧∃T,(∀i x,l[i]? = some x→(i < k→T i=x.traffic.map (grw gr))∧(k≤i→T i=x.traffic))∧GrowAt (w.heap.size+2) wr g l tb T) (fun i _=>l.length - (intOf i).toNat)
 case atStart=>exact ⟨0,rfl,by omega,HBW,HW,_,fun i x hx=>⟨fun h=>absurd h (by omega),fun _=>by simp only [hx]⟩,HG⟩
 case round =>
  clear HW HBW HG
  obtain ⟨k,rfl,hk,hBr,hOB,T,hT,hG⟩:=hrel
  by_cases hlt:k < l.length
  ·obtain ⟨x,hx⟩:∃x,l[k]? = some x:=⟨l[k],by simp [hlt]⟩
   obtain ⟨ta,tb1,tb2,tb3,too,tl,tc⟩:=hG.ta k x hx
   obtain ⟨⟨c0,_⟩,⟨c1,_⟩,⟨c2,_⟩⟩:=And.intro (hG.row _ _ (zq l k x hx).1) (And.intro (hG.row _ _ (zq l k x hx).2.1) (hG.row _ _ (zq l k x hx).2.2))
   rw [ta] at c2
   have hk20:(k:Int) < (l.length:Int):=by omega
   have hk0:(0:Int)≤(k:Int):=Int.natCast_nonneg k
   have hx20:=hx20 k x hx
   have HX:=Lib.hid (And.intro hx ta)
   clear hx ta
   go_wp2
   obtain ⟨V,hV⟩:∃V,V=wr:=⟨_,rfl⟩
   subst hV
   have hBa:Below V.heap.size V (V.alloc (.cells #[.string x.name,.int .i64 x.trunks,.slice (some ⟨tb k,0,none⟩) x.traffic.length x.tc] 56)):=(Below.refl _ V).alloc (Nat.le_refl _) _
   obtain ⟨W2,hW2⟩:∃W2,V.alloc (.cells #[.string x.name,.int .i64 x.trunks,.slice (some ⟨tb k,0,none⟩) x.traffic.length x.tc] 56)=W2:=⟨_,rfl⟩
   have b2:W2.cell? ⟨V.heap.size,2,none⟩=some (.slice (some ⟨tb k,0,none⟩) x.traffic.length x.tc):=by subst hW2;go_cell
   have hsz:=hBr.size
   rw [hW2] at hBa ⊢
   clear hW2
   go_loopw [20] (fun i w3=>∃j:Nat,i=.int .i64 j∧j≤x.traffic.length∧Below w.heap.size w w3∧V.heap.size < w3.heap.size∧w3.cell? ⟨V.heap.size,2,none⟩=some (.slice (some ⟨tb k,0,none⟩) x.traffic.length x.tc)∧qaB w lim gr hr g l.length cg w3∧∃T,(∀i x,l[i]? = some x→(i < k→T i=x.traffic.map (grw gr))∧(k < i→T i=x.traffic))∧(∀q y,x.traffic[q]? = some y→(T k)[q]? = some (if q < j then grw gr y else y))∧GrowAt (w.heap.size+2) w3 g l tb T) (fun i _=>x.traffic.length - (intOf i).toNat)
   case atStart=>exact ⟨0,rfl,by omega,bcl hBr hBa,by have:=lt_of_cell b2;exact this,b2,hOB.keep hBa,T,fun i x hx=>⟨(hT i x hx).1,fun h=>(hT i x hx).2 (by omega)⟩,fun q y hy=>by rw [(hT k x HX.out.1).2 (Nat.le_refl _),hy];simp,hG.keep hBa⟩
   case round =>
    clear b2 hBa hOB
    obtain ⟨j,rfl,hj,hB3,hV3,b2,hOB,T3,hT3,hT3k,hG3⟩:=hrel
    have hls:=fun q y hq=>hT3k q y hq
    by_cases hjl:j < x.traffic.length
    ·obtain ⟨y,hy⟩:∃y,x.traffic[j]? = some y:=⟨x.traffic[j],by simp [hjl]⟩
     have hTy:(T3 k)[j]? = some y:=by rw [hT3k j y hy,if_neg (Nat.lt_irrefl _)]
     have ho:=(hG3.ta k x HX.out.1).2.2.2.2.1
     obtain ⟨⟨y0,z0⟩,⟨y1,z1⟩⟩:=And.intro (ho _ _ (yx _ j y hTy).1) (ho _ _ (yx _ j y hTy).2)
     have hj20:(j:Int) < (x.traffic.length:Int):=by omega
     have hj0:(0:Int)≤(j:Int):=Int.natCast_nonneg j
     have p2:=hOB.2.2.1
     have htk:tb k < wr.heap.size:=lt_of_cell y0
     have hl1:w.heap.size < wr.heap.size:=lt_of_cell p2
     have hl2:w.heap.size < wr.heap.size+1:=by omega
     have hl3:tb k < wr.heap.size+1:=by omega
     have hl4:V.heap.size < wr.heap.size+1:=by omega
     have hyes:=fun W (h:yj y)=>zQ y W h
     have hno:=fun W (h:¬ yj y)=>yJ y W h
     simp only [fv] at hyes hno
     have HY:=Lib.hid (And.intro hy hTy)
     clear hy hTy ho hls
     by_cases hTr:yj y
     ·have hm0:0≤y.1 * (100+gr):=Int.mul_nonneg hTr.1.1 (by omega)
      have hm1:y.1 * (100+gr)≤12 * 1100:=Int.mul_le_mul hTr.1.2 (by omega) (by omega) (by omega)
      go_wp2_with (go_at_call 71;(with_reducible refine (hyes _ hTr).mono ?_);rintro e w1 ⟨rfl,hB1⟩;(first | (replace hB:=bcl (by with_reducible assumption) hB1) | (replace hB:=bcl (by go_grown) hB1) | (have hB:=hB1));(try clear hc hg hz);obtain ⟨hc,hg⟩:=qx hB;have hz:=hB.size;clear hB1;(try simp at hz);(try have hlt0:w.heap.size < w1.heap.size:=by omega))
      go_roundw
      case rel =>
       have hBc:=Below.call (B:=wr.heap.size) (w:=wr) (by go_grown) hB (by simp)
       have hgy:grw gr y=((y.1 * (100+gr)+99) / 100,y.2):=by unfold grw;rw [if_pos hTr]
       have hst:=(hG3.keep hBc).step (y:=((y.1 * (100+gr)+99) / 100,y.2)) HX.out.1 HY.out.2 rfl
       refine ⟨j+1,rfl,by omega,(bcl hB3 hBc).setCell (by show w.heap.size≤tb k;omega) _,by have:=hBc.size;simp <;> omega,qd (by simp <;> omega) (qb _ hBc b2),(hOB.keep hBc).putAt _ _ (by omega),_,fun i z hz=>⟨fun h=>?_,fun h=>?_⟩,fun q z hz=>?_,hst⟩
       ·rw [if_neg (by omega)];exact (hT3 i z hz).1 h
       ·rw [if_neg (by omega)];exact (hT3 i z hz).2 h
       ·rw [if_pos rfl]
        by_cases e:j=q
        ·subst e
         rw [List.getElem?_set_self (List.getElem?_eq_some_iff.1 HY.out.2).1,if_pos (by omega),Option.some.inj (hz.symm.trans HY.out.1),hgy]
        ·rw [List.getElem?_set_ne e,hT3k q z hz]
         by_cases e2:q < j
         ·rw [if_pos e2,if_pos (by omega)]
         ·rw [if_neg e2,if_neg (by omega)]
      case measure=>simp [intOf];omega
     ·go_wp2_with (go_at_call 71;(with_reducible refine (hno _ hTr).mono ?_);rintro e w1 ⟨rfl,hB1⟩;(first | (replace hB:=bcl (by with_reducible assumption) hB1) | (replace hB:=bcl (by go_grown) hB1) | (have hB:=hB1));(try clear hc hg hz);obtain ⟨hc,hg⟩:=qx hB;have hz:=hB.size;clear hB1;(try simp at hz);(try have hlt0:w.heap.size < w1.heap.size:=by omega))
      go_roundw
      case rel =>
       have hBc:=Below.call (B:=wr.heap.size) (w:=wr) (by go_grown) hB (by simp)
       refine ⟨j+1,rfl,by omega,bcl hB3 hBc,by have:=hBc.size;omega,qb _ hBc b2,hOB.keep hBc,T3,hT3,fun q z hz=>?_,hG3.keep hBc⟩
       rw [hT3k q z hz]
       by_cases e2:q < j
       ·rw [if_pos e2,if_pos (by omega)]
       ·rw [if_neg e2]
        by_cases e:j=q
        ·subst e
         obtain rfl:=Option.some.inj (hz.symm.trans HY.out.1)
         rw [if_pos (by omega)]
         unfold grw;rw [if_neg hTr]
        ·rw [if_neg (by omega)]
      case measure=>simp [intOf];omega
    ·obtain rfl:j=x.traffic.length:=by omega
     have hk1:(k:Int)+1≤20:=by omega
     go_wp2
     go_roundw
     case rel =>
      refine ⟨k+1,rfl,by omega,hB3,hOB,T3,fun i z hz=>⟨fun h=>?_,fun h=>(hT3 i z hz).2 (by omega)⟩,hG3⟩
      by_cases e:i=k
      ·subst e
       obtain rfl:=Option.some.inj (hz.symm.trans HX.out.1)
       refine List.ext_getElem? fun q=>?_
       rw [List.getElem?_map]
       cases hq:z.traffic[q]? with
       | none =>
         have h1:=List.getElem?_eq_none_iff.1 hq
         have h2:=(hG3.ta i z hz).2.2.2.2.2.1
         rw [List.getElem?_eq_none (by omega)];rfl
       | some y =>
         have h1:=(List.getElem?_eq_some_iff.1 hq).1
         rw [hT3k q y hq,if_pos h1];rfl
      ·exact (hT3 i z hz).1 (by omega)
     case measure=>simp [intOf];omega
  ·obtain rfl:k=l.length:=by omega
   obtain ⟨p0,p1,p2,p3,p4,r⟩:=hOB
   obtain ⟨v0,r0,f0⟩:=r 0 (by omega)
   obtain ⟨v1,r1,f1⟩:=r 1 (by omega)
   obtain ⟨v2,r2,f2⟩:=r 2 (by omega)
   obtain ⟨v3,r3,f3⟩:=r 3 (by omega)
   obtain ⟨v4,r4,f4⟩:=r 4 (by omega)
   go_wp2
   refine qfs results67 jU jb rfl r0 r1 r2 r3 r4 ⟨⟨g,cg,l.map (ZO gr),tb,?_,YN hS,?_,?_⟩,Below.set5 hBr (Nat.le_succ _)⟩
   ·simp [bv,Yy]
   ·refine OwnGs.mono ?_ (show w.heap.size≤w.heap.size+2 by omega)
    refine qbg (hG.five (by omega)) fun i x hx=>?_
    exact (hT i x hx).1 (List.getElem?_eq_some_iff.1 hx).1
   ·simpa using hcl
end Go.Proofs.Tryz
