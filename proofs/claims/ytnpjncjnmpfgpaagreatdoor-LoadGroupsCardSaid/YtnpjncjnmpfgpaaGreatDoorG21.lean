/-
  Lemmas about the program and the machine (C50 to C50), upon which the last text of this claim rests; no condition.
-/
import Derived.Test.YtnpjncjnmpfgpaaGreatDoorG20
set_option linter.unusedSimpArgs false
set_option linter.unusedVariables false
section
namespace Go.Proofs.Tryz
open Go Go.Load Go.RowKit
theorem sp23B:qf.underlying 45=some (.struct (qf.fieldsOf 45)):=by kernel_rfl
theorem hp23B:qf.stoodInHeld 45=false:=by kernel_rfl
theorem eqfB (d:Nat) (a b a' b':Int) (w:World):(Op.equalIn (d+2) 45 (.agg #[.int .i64 a,.int .i64 b]) (.agg #[.int .i64 a',.int .i64 b'])).run qf w=.ok (a == a' && b == b') w:=by
 rw [run_equalIn_agg w (d+1) 45 _ _ sp23B hp23B]
 have e0:(Op.eqFields (d+1) #[.int .i64 a,.int .i64 b] #[.int .i64 a',.int .i64 b'] (qf.fieldsOf 45).toList).run qf w=(if (!(a == a'))=true then (pure false:Sem Bool) else Op.eqFields (d+1) #[.int .i64 a,.int .i64 b] #[.int .i64 a',.int .i64 b'] (qf.fieldsOf 45).toList.tail).run qf w:=by kernel_rfl
 rw [e0]
 cases h:(a == a') with
 | false=>simp
 | true =>
   have e1:(Op.eqFields (d+1) #[.int .i64 a,.int .i64 b] #[.int .i64 a',.int .i64 b'] (qf.fieldsOf 45).toList.tail).run qf w=(if (!(b == b'))=true then (pure false:Sem Bool) else pure true).run qf w:=by kernel_rfl
   simp only [Bool.not_true,Bool.false_eq_true,if_false]
   rw [e1]
   cases h:(b == b') <;> simp
@[go_sem] theorem eqf_runB (a b a' b':Int) (w:World):(Op.equalIn 10000 45 (.agg #[.int .i64 a,.int .i64 b]) (.agg #[.int .i64 a',.int .i64 b'])).run qf w=.ok (a == a' && b == b') w:=eqfB 9998 a b a' b' w
@[go_sem] theorem neqf_runB (a b a' b':Int) (w:World):(binOp .neq 45 (.agg #[.int .i64 a,.int .i64 b]) (.agg #[.int .i64 a',.int .i64 b'])).run qf w=.ok (.bool (!(a == a' && b == b'))) w:=by
  rw [run_neq_struct,eqf_runB];rfl
theorem hm23B:qf.eqGuardType qf.depth 45=false:=by kernel_rfl
@[go_sem] theorem guardf_runB (op:BinOp) (p q:Operand) (xs ys:Array Value) (w:World):(eqGuard op 45 p q (.agg xs) (.agg ys)).run qf w=.ok () w:=run_eqGuard_agg w op _ p q xs ys hm23B
abbrev LS (W:World) (x1 x2 x3 x4 x5 x6 x7:Nat) (X:World):Prop :=
 X.cell? ⟨x1,0,none⟩=some (.int .i64 2)∧X.cell? ⟨x1,1,none⟩=some (.int .i64 5)∧X.cell? ⟨x2,0,none⟩=some (.int .i64 4)∧X.cell? ⟨x2,1,none⟩=some (.int .i64 5)∧X.cell? ⟨x3,0,none⟩=some (.int .i64 6)∧X.cell? ⟨x3,1,none⟩=some (.int .i64 5) ∧
 X.cell? ⟨x4,0,none⟩=some (.int .i64 1)∧X.cell? ⟨x4,1,none⟩=some (.int .i64 1)∧X.cell? ⟨x5,0,none⟩=some (.int .i64 1)∧X.cell? ⟨x5,1,none⟩=some (.int .i64 5)∧X.cell? ⟨x6,0,none⟩=some (.int .i64 36)∧X.cell? ⟨x6,1,none⟩=some (.int .i64 95) ∧
 X.cell? ⟨x7,0,none⟩=some (.int .i64 6)∧X.cell? ⟨x7,1,none⟩=some (.int .i64 7)∧Below W.heap.size W X
theorem LS.call {W X Y:World} {x1 x2 x3 x4 x5 x6 x7:Nat} (h:LS W x1 x2 x3 x4 x5 x6 x7 X) (hB:Below X.heap.size X Y):LS W x1 x2 x3 x4 x5 x6 x7 Y:=by
 obtain ⟨a0,a1,b0,b1,c0,c1,d0,d1,e0,e1,f0,f1,g0,g1,hW⟩:=h
 exact ⟨qb _ hB a0,qb _ hB a1,qb _ hB b0,qb _ hB b1,qb _ hB c0,qb _ hB c1,qb _ hB d0,qb _ hB d1,qb _ hB e0,qb _ hB e1,qb _ hB f0,qb _ hB f1,qb _ hB g0,qb _ hB g1,bcl hW hB⟩
theorem LS.drew {W X:World} {x1 x2 x3 x4 x5 x6 x7:Nat} (h:LS W x1 x2 x3 x4 x5 x6 x7 X):LS W x1 x2 x3 x4 x5 x6 x7 X.drew:=by
 obtain ⟨a0,a1,b0,b1,c0,c1,d0,d1,e0,e1,f0,f1,g0,g1,hW⟩:=h
 exact ⟨a0,a1,b0,b1,c0,c1,d0,d1,e0,e1,f0,f1,g0,g1,⟨hW.os,hW.tape,hW.output,hW.size,hW.block⟩⟩
theorem LS.alloc {W X:World} {x1 x2 x3 x4 x5 x6 x7:Nat} (h:LS W x1 x2 x3 x4 x5 x6 x7 X) (o:Obj):LS W x1 x2 x3 x4 x5 x6 x7 (X.alloc o):=h.call ((Below.refl _ X).alloc (Nat.le_refl _) _)
theorem LS.bel {W X:World} {x1 x2 x3 x4 x5 x6 x7:Nat} (h:LS W x1 x2 x3 x4 x5 x6 x7 X):Below W.heap.size W X:=h.2.2.2.2.2.2.2.2.2.2.2.2.2.2
abbrev LR (W:World) (xr gr gc tc0 tc1:Nat) (ta0 ta1:Option Addr) (X:World):Prop :=
 X.cell? ⟨xr,4,none⟩=some (.slice (some ⟨gr,0,none⟩) 2 gc)∧X.cell? ⟨gr,2,none⟩=some (.slice ta0 2 tc0)∧X.cell? ⟨gr,5,none⟩=some (.slice ta1 2 tc1)∧Below W.heap.size W X
theorem LR.call {W X Y:World} {xr gr gc tc0 tc1:Nat} {ta0 ta1:Option Addr} (h:LR W xr gr gc tc0 tc1 ta0 ta1 X) (hB:Below X.heap.size X Y):LR W xr gr gc tc0 tc1 ta0 ta1 Y :=
 ⟨qb _ hB h.1,qb _ hB h.2.1,qb _ hB h.2.2.1,bcl h.2.2.2 hB⟩
theorem LR.drew {W X:World} {xr gr gc tc0 tc1:Nat} {ta0 ta1:Option Addr} (h:LR W xr gr gc tc0 tc1 ta0 ta1 X):LR W xr gr gc tc0 tc1 ta0 ta1 X.drew :=
 ⟨h.1,h.2.1,h.2.2.1,⟨h.2.2.2.os,h.2.2.2.tape,h.2.2.2.output,h.2.2.2.size,h.2.2.2.block⟩⟩
theorem LR.alloc {W X:World} {xr gr gc tc0 tc1:Nat} {ta0 ta1:Option Addr} (h:LR W xr gr gc tc0 tc1 ta0 ta1 X) (o:Obj):LR W xr gr gc tc0 tc1 ta0 ta1 (X.alloc o):=h.call ((Below.refl _ X).alloc (Nat.le_refl _) _)
theorem JK (X:World) (a b c d:Int) (t:TypeId):xG (X.alloc (.cells #[.int .i64 a,.int .i64 b,.int .i64 c,.int .i64 d] t)) (.slice (some ⟨X.heap.size,0,none⟩) 2 2) [(a,b),(c,d)] :=
 ⟨_,_,rfl,fun _=>⟨_,_,rfl,YH X a b c d t⟩⟩
theorem Ja (X:World) (a b:Int) (t:TypeId):yl (X.alloc (.cells #[.int .i64 a,.int .i64 b] t)) (.slice (some ⟨X.heap.size,0,none⟩) 2 2) [a,b] :=
 ⟨_,_,rfl,fun _=>⟨_,rfl,fun i x hx=>by
   rcases i with _ | _ | i
   ·cases hx;exact zf X #[.int .i64 a,.int .i64 b] t 0 (by simp)
   ·cases hx;exact zf X #[.int .i64 a,.int .i64 b] t 1 (by simp)
   ·simp at hx⟩⟩
theorem xG.keep {w w1:World} {v:Value} {L:List (Int×Int)} (h:xG w v L) (hB:Below w.heap.size w w1):xG w1 v L:=by
 obtain ⟨a,c,rfl,hp⟩:=h
 exact ⟨a,c,rfl,fun h1=>let ⟨b,o,e,q⟩:=hp h1;⟨b,o,e,q.keep hB⟩⟩
structure LSt (w W:World) (B1 B2:Bk) (l:List (Addr×Value)) (m:List (Value×List Int)) (f:List (Value×List (Int×Int))):Prop where
 cs:∀p∈l,W.cell? p.1=some p.2
 is:∀p∈m,yl W p.1 p.2
 fr:∀p∈f,xG W p.1 p.2
 gl:Globs W
 bw:Below w.heap.size w W
 b1:BookAt W B1
 b2:BookAt W B2
section
variable {w W w1:World} {B1 B2:Bk} {l:List (Addr×Value)} {m:List (Value×List Int)} {f:List (Value×List (Int×Int))}
theorem LSt.call (h:LSt w W B1 B2 l m f) (hB:Below W.heap.size W w1):LSt w w1 B1 B2 l m f :=
 ⟨fun p hp=>qb _ hB (h.cs p hp),fun p hp=>(h.is p hp).keep hB,fun p hp=>(h.fr p hp).keep hB,h.gl.keep hB,bcl h.bw hB,h.b1.keep hB,h.b2.keep hB⟩
theorem LSt.cell (h:LSt w W B1 B2 l m f) (p:Addr×Value) (hp:p∈l):W.cell? p.1=some p.2:=h.cs p hp
theorem LSt.box2 (h:LSt w W B1 B2 l m f) (x y:Value) (t:TypeId):LSt w (W.alloc (.cells #[x,y] t)) B1 B2 ((⟨W.heap.size,0,none⟩,x) :: (⟨W.heap.size,1,none⟩,y) :: l) m f:=by
 have hB:Below W.heap.size W (W.alloc (.cells #[x,y] t)):=(Below.refl _ W).alloc (Nat.le_refl _) _
 have h':=h.call hB
 refine ⟨fun p hp=>?_,h'.is,h'.fr,h'.gl,h'.bw,h'.b1,h'.b2⟩
 rcases List.mem_cons.1 hp with rfl | hp
 ·exact zf W #[x,y] t 0 (by simp)
 rcases List.mem_cons.1 hp with rfl | hp
 ·exact zf W #[x,y] t 1 (by simp)
 ·exact h'.cs p hp
theorem LSt.box5 (h:LSt w W B1 B2 l m f) (a b c d e:Value) (t:TypeId):LSt w (W.alloc (.cells #[a,b,c,d,e] t)) B1 B2 ((⟨W.heap.size,0,none⟩,a) :: (⟨W.heap.size,1,none⟩,b) :: (⟨W.heap.size,2,none⟩,c) :: (⟨W.heap.size,3,none⟩,d) :: (⟨W.heap.size,4,none⟩,e) :: l) m f:=by
 have hB:Below W.heap.size W (W.alloc (.cells #[a,b,c,d,e] t)):=(Below.refl _ W).alloc (Nat.le_refl _) _
 have h':=h.call hB
 refine ⟨fun p hp=>?_,h'.is,h'.fr,h'.gl,h'.bw,h'.b1,h'.b2⟩
 rcases List.mem_cons.1 hp with rfl | hp
 ·exact zf W #[a,b,c,d,e] t 0 (by simp)
 rcases List.mem_cons.1 hp with rfl | hp
 ·exact zf W #[a,b,c,d,e] t 1 (by simp)
 rcases List.mem_cons.1 hp with rfl | hp
 ·exact zf W #[a,b,c,d,e] t 2 (by simp)
 rcases List.mem_cons.1 hp with rfl | hp
 ·exact zf W #[a,b,c,d,e] t 3 (by simp)
 rcases List.mem_cons.1 hp with rfl | hp
 ·exact zf W #[a,b,c,d,e] t 4 (by simp)
 ·exact h'.cs p hp
theorem LSt.ints (h:LSt w W B1 B2 l m f) {v:Value} {L:List Int} (hv:yl W v L):LSt w W B1 B2 l ((v,L) :: m) f :=
 ⟨h.cs,fun p hp=>by rcases List.mem_cons.1 hp with rfl | hp;exact hv;exact h.is p hp,h.fr,h.gl,h.bw,h.b1,h.b2⟩
end
theorem LSt.add {w W:World} {B1 B2:Bk} {l:List (Addr×Value)} {m:List (Value×List Int)} {f:List (Value×List (Int×Int))} (h:LSt w W B1 B2 l m f) {a:Addr} {v:Value} (hc:W.cell? a=some v):LSt w W B1 B2 ((a,v) :: l) m f :=
 ⟨fun p hp=>by rcases List.mem_cons.1 hp with rfl | hp;exact hc;exact h.cs p hp,h.is,h.fr,h.gl,h.bw,h.b1,h.b2⟩
theorem LSt.fracs {w W:World} {B1 B2:Bk} {l:List (Addr×Value)} {m:List (Value×List Int)} {f:List (Value×List (Int×Int))} (h:LSt w W B1 B2 l m f) {v:Value} {L:List (Int×Int)} (hv:xG W v L):LSt w W B1 B2 l m ((v,L) :: f) :=
 ⟨h.cs,h.is,fun p hp=>by rcases List.mem_cons.1 hp with rfl | hp;exact hv;exact h.fr p hp,h.gl,h.bw,h.b1,h.b2⟩
theorem qcH {base g a b g' gc:Nat} {W:World} {l:List Grp} {tb:Nat→Nat} (hO:Xc base (exB g a b) 1 W g' gc l tb) :
 ∃ta0 tc0 ta1 tc1,l.length=2∧W.cell? ⟨g',2,none⟩=some (.slice ta0 2 tc0)∧W.cell? ⟨g',5,none⟩=some (.slice ta1 2 tc1)∧xG W (.slice ta0 2 tc0) [(2,1),(2,2)]∧xG W (.slice ta1 2 tc1) [(3,1),(2,1)]:=by
 have hb:=hO.book ⟨by simp [exB],fun x hx=>by
  simp only [exB,List.mem_cons,List.not_mem_nil,or_false] at hx
  rcases hx with rfl | rfl
  ·exact ⟨by simp,by show west.size≤100;decide⟩
  ·exact ⟨by simp,by show east.size≤100;decide⟩⟩
 obtain ⟨hS,_,_⟩:=hO
 have e2:=(e_grow g a b).2
 obtain ⟨L0,L1,eL⟩:∃x y,(qR (exB g a b) 1).gs=[x,y]:=qaZ (by have:=congrArg List.length e2;simpa using this)
 rw [eL] at e2 hS
 simp only [List.map_cons,List.map_nil,List.cons.injEq,and_true] at e2
 obtain ⟨x,y,rfl⟩:=qaZ (l:=l) hS.1
 obtain ⟨_,_,t0⟩:=hS.2 0 L0 x rfl rfl
 obtain ⟨_,_,t1⟩:=hS.2 1 L1 y rfl rfl
 have q0:x.traffic=[(2,1),(2,2)]:=t0.trans e2.1
 have q1:y.traffic=[(3,1),(2,1)]:=t1.trans e2.2
 obtain ⟨b2,o2,eg,hc⟩:=hb.row (by simp)
 cases eg
 obtain ⟨_,_,c0⟩:=hc 0 x rfl
 obtain ⟨_,_,c1⟩:=hc 1 y rfl
 have u0:=hb.traf x (by simp)
 have u1:=hb.traf y (by simp)
 rw [q0] at c0
 rw [q1] at c1
 refine ⟨x.ta,x.tc,y.ta,y.tc,rfl,c0,c1,⟨_,_,rfl,fun _=>?_⟩,⟨_,_,rfl,fun _=>?_⟩⟩
 ·obtain ⟨b3,o3,e3,p3⟩:=u0 (by rw [q0];decide)
  exact ⟨b3,o3,e3,q0▸p3⟩
 ·obtain ⟨b3,o3,e3,p3⟩:=u1 (by rw [q1];decide)
  exact ⟨b3,o3,e3,q1▸p3⟩
theorem exB_len {g a b:Nat} {x:Grp} (h:x∈(exB g a b).gs):1≤x.traffic.length:=by
 simp only [exB,List.mem_cons,List.not_mem_nil,or_false] at h
 rcases h with rfl | rfl <;> simp
theorem exB_cap {g a b:Nat} {x:Grp} (h:x∈(exB g a b).gs):x.traffic.length≤x.tc:=by
 simp only [exB,List.mem_cons,List.not_mem_nil,or_false] at h
 rcases h with rfl | rfl <;> simp
set_option maxHeartbeats 40000000 in
set_option maxRecDepth 100000 in
theorem qex (w:World) (hG:Globs w):Calls qf 7 #[] w fun e w'=>e=.returned (.bool true)∧Below w.heap.size w w':=by
 have hof:=fun a b W=>qez a b W
 simp only [fv] at hof
 go_enter s7,ntmps7
 go_wp2
 go_at_call 32
 refine (Yd _).mono ?_
 rintro e w1 ⟨⟨g1,a1,b1,rfl,hk1⟩,hB1⟩
 go_wp2
 go_at_call 32
 refine (Yd _).mono ?_
 rintro e w2 ⟨⟨g2,a2,b2,rfl,hk2⟩,hB2⟩
 simp only [bv,exB]
 go_wp2
 go_at_call 33
 refine (hof 1 2 _).mono ?_
 rintro e w3 ⟨rfl,hB3⟩
 have k0:=qb ⟨w2.heap.size,0,none⟩ hB3 (v:=.int .i64 1) (by go_cell)
 have k1:=qb ⟨w2.heap.size,1,none⟩ hB3 (v:=.int .i64 5) (by go_cell)
 have k2:=qb ⟨w2.heap.size,2,none⟩ hB3 (v:=.int .i64 50) (by go_cell)
 have k3:=qb ⟨w2.heap.size,3,none⟩ hB3 (v:=.int .i64 2) (by go_cell)
 have k4:=qb ⟨w2.heap.size,4,none⟩ hB3 (v:=.slice (some ⟨g1,0,none⟩) 2 2) (by go_cell)
 have c0:=qb ⟨w2.heap.size+1,0,none⟩ hB3 (v:=.int .i64 1) (by go_cell)
 have c1:=qb ⟨w2.heap.size+1,1,none⟩ hB3 (v:=.int .i64 5) (by go_cell)
 have c2:=qb ⟨w2.heap.size+1,2,none⟩ hB3 (v:=.int .i64 50) (by go_cell)
 have c3:=qb ⟨w2.heap.size+1,3,none⟩ hB3 (v:=.int .i64 2) (by go_cell)
 have c4:=qb ⟨w2.heap.size+1,4,none⟩ hB3 (v:=.slice (some ⟨g2,0,none⟩) 2 2) (by go_cell)
 have f0:=qg ⟨w2.heap.size+1,0,none⟩ hB3 (v:=.int .i64 1) (by go_cell) (by go_cell)
 have f1:=qg ⟨w2.heap.size+1,1,none⟩ hB3 (v:=.int .i64 5) (by go_cell) (by go_cell)
 have hBa:Below w2.heap.size w2 w3:=Below.call (B:=w2.heap.size) (by go_grown) hB3 (by simp)
 have hz:=hB3.size
 simp at hz
 clear hB3
 go_wp2
 obtain ⟨W,hW⟩:∃W,(w3.setCell ⟨w2.heap.size+1,0,none⟩ (.int .i64 1)).setCell ⟨w2.heap.size+1,1,none⟩ (.int .i64 2)=W:=⟨_,rfl⟩
 have hB:Below w2.heap.size w2 W:=by subst hW;exact (hBa.setCell (by simp) _).setCell (by simp) _
 have h:LSt w W (exB g1 a1 b1) (exC g2 a2 b2) [(⟨w2.heap.size,0,none⟩,.int .i64 1),(⟨w2.heap.size,1,none⟩,.int .i64 5),(⟨w2.heap.size,2,none⟩,.int .i64 50),(⟨w2.heap.size,3,none⟩,.int .i64 2),(⟨w2.heap.size,4,none⟩,.slice (some ⟨g1,0,none⟩) 2 2),
  (⟨w2.heap.size+1,0,none⟩,.int .i64 1),(⟨w2.heap.size+1,1,none⟩,.int .i64 2),(⟨w2.heap.size+1,2,none⟩,.int .i64 50),(⟨w2.heap.size+1,3,none⟩,.int .i64 2),(⟨w2.heap.size+1,4,none⟩,.slice (some ⟨g2,0,none⟩) 2 2)] [] []:=by
  have hb2:BookAt w2 (exC g2 a2 b2):=⟨hk2.row,hk2.traf,hk2.small,hk2.cap⟩
  refine ⟨fun p hp=>?_,fun p hp=>by simp at hp,fun p hp=>by simp at hp,(hG.keep (hB1.trans (hB2.mono hB1.size))).keep hB,bcl (Below.call (Below.call (Below.refl _ _) hB1 (Nat.le_refl _)) hB2 (Nat.le_refl _)) hB,(hk1.keep hB2).keep hB,hb2.keep hB⟩
  subst hW
  simp only [List.mem_cons,List.not_mem_nil,or_false] at hp
  rcases hp with rfl | rfl | rfl | rfl | rfl | rfl | rfl | rfl | rfl | rfl
  ·exact qd (by simp) (qd (by simp) k0)
  ·exact qd (by simp) (qd (by simp) k1)
  ·exact qd (by simp) (qd (by simp) k2)
  ·exact qd (by simp) (qd (by simp) k3)
  ·exact qd (by simp) (qd (by simp) k4)
  ·exact qd (by simp) (ze (qA c0))
  ·exact ze (qy (qA c1))
  ·exact qd (by simp) (qd (by simp) c2)
  ·exact qd (by simp) (qd (by simp) c3)
  ·exact qd (by simp) (qd (by simp) c4)
 rw [hW]
 clear hW hB hBa hz k0 k1 k2 k3 k4 c0 c1 c2 c3 c4 f0 f1 hk1 hk2 hB1 hB2 hG
 generalize w2.heap.size+1=bc at h ⊢
 generalize w2.heap.size=bb at h ⊢
 clear w1 w2 w3
 go_at_call 33
 refine (hof 2 1 _).mono ?_
 rintro e w' ⟨rfl,hB⟩
 replace h:=h.call hB
 clear hB
 go_wp2
 go_at_call 34
 refine (Loss_any 2 (2,1) _).mono ?_
 rintro e w' ⟨he,hB⟩
 rw [e_loss] at he
 subst he
 replace h:=h.call hB
 clear hB
 simp only [tv,fv]
 replace h:=h.box2 (.int .i64 2) (.int .i64 5) 23
 go_wp2
 generalize w'.alloc (.cells #[.int .i64 2,.int .i64 5] 23)=W at h ⊢
 generalize w'.heap.size=x1 at h ⊢
 go_at_call 33
 refine (hof 2 1 _).mono ?_
 rintro e w' ⟨rfl,hB⟩
 replace h:=h.call hB
 clear hB
 go_wp2
 go_at_call 35
 refine (Lost_any 2 (2,1) _).mono ?_
 rintro e w' ⟨he,hB⟩
 rw [e_lost] at he
 subst he
 replace h:=h.call hB
 clear hB
 simp only [tv,fv]
 replace h:=h.box2 (.int .i64 4) (.int .i64 5) 23
 go_wp2
 generalize w'.alloc (.cells #[.int .i64 4,.int .i64 5] 23)=W at h ⊢
 generalize w'.heap.size=x2 at h ⊢
 go_at_call 33
 refine (hof 2 1 _).mono ?_
 rintro e w' ⟨rfl,hB⟩
 replace h:=h.call hB
 clear hB
 go_wp2
 go_at_call 36
 refine (qax 2 (2,1) _).mono ?_
 rintro e w' ⟨he,hB⟩
 rw [qdU] at he
 subst he
 replace h:=h.call hB
 clear hB
 simp only [tv,fv]
 replace h:=h.box2 (.int .i64 6) (.int .i64 5) 23
 go_wp2
 generalize w'.alloc (.cells #[.int .i64 6,.int .i64 5] 23)=W at h ⊢
 generalize w'.heap.size=x3 at h ⊢
 go_at_call 33
 refine (hof 2 1 _).mono ?_
 rintro e w' ⟨rfl,hB⟩
 replace h:=h.call hB
 clear hB
 go_wp2
 go_at_call 33
 refine (hof 1 5 _).mono ?_
 rintro e w' ⟨rfl,hB⟩
 replace h:=h.call hB
 clear hB
 go_wp2
 go_at_call 37
 refine (qcp (2,1) (1,5) _).mono ?_
 rintro e w' ⟨he,hB⟩
 rw [e_enough] at he
 subst he
 replace h:=h.call hB
 clear hB
 simp only [tv,fv]
 go_wp2
 go_at_call 33
 refine (hof 1 5 _).mono ?_
 rintro e w' ⟨rfl,hB⟩
 replace h:=h.call hB
 clear hB
 go_wp2
 go_at_call 38
 refine (qdu 2 1 (1,5) _).mono ?_
 rintro e w' ⟨he,hB⟩
 rw [e_bears] at he
 subst he
 replace h:=h.call hB
 clear hB
 simp only [tv,fv]
 replace h:=h.box2 (.int .i64 1) (.int .i64 1) 23
 go_wp2
 generalize w'.alloc (.cells #[.int .i64 1,.int .i64 1] 23)=W at h ⊢
 generalize w'.heap.size=x4 at h ⊢
 go_at_call 33
 refine (hof 1 1 _).mono ?_
 rintro e w' ⟨rfl,hB⟩
 replace h:=h.call hB
 clear hB
 go_wp2
 go_at_call 39
 refine (Over_any 1 1 (1,1) _).mono ?_
 rintro e w' ⟨he,hB⟩
 rw [e_over] at he
 subst he
 replace h:=h.call hB
 clear hB
 simp only [tv,fv]
 replace h:=h.box2 (.int .i64 1) (.int .i64 5) 23
 have k0:=h.cell (⟨bb,0,none⟩,.int .i64 1) (by simp)
 have k1:=h.cell (⟨bb,1,none⟩,.int .i64 5) (by simp)
 have k2:=h.cell (⟨bb,2,none⟩,.int .i64 50) (by simp)
 have k3:=h.cell (⟨bb,3,none⟩,.int .i64 2) (by simp)
 have k4:=h.cell (⟨bb,4,none⟩,.slice (some ⟨g1,0,none⟩) 2 2) (by simp)
 simp only at k0 k1 k2 k3 k4
 go_wp2
 clear k0 k1 k2 k3 k4
 generalize w'.alloc (.cells #[.int .i64 1,.int .i64 5] 23)=W at h ⊢
 generalize w'.heap.size=x5 at h ⊢
 go_at_call 12
 refine (XG (exB g1 a1 b1) _ h.b1 h.gl).mono ?_
 intro e w' hp
 unfold QE at hp
 rw [if_pos (XM _ _ _)] at hp
 obtain ⟨vi,rfl,hs,hB⟩:=hp
 replace h:=(h.call hB).ints (zP (show SliceOf _ w' vi [] from e_good _ _ _▸hs))
 clear hs hB
 have k0:=h.cell (⟨bb,0,none⟩,.int .i64 1) (by simp)
 have k1:=h.cell (⟨bb,1,none⟩,.int .i64 5) (by simp)
 have k2:=h.cell (⟨bb,2,none⟩,.int .i64 50) (by simp)
 have k3:=h.cell (⟨bb,3,none⟩,.int .i64 2) (by simp)
 have k4:=h.cell (⟨bb,4,none⟩,.slice (some ⟨g1,0,none⟩) 2 2) (by simp)
 simp only at k0 k1 k2 k3 k4
 go_wp2
 clear k0 k1 k2 k3 k4
 go_at_call 15
 refine (qbH (exB g1 a1 b1) _ h.b1 h.gl (by simp [exB]) (fun g hg=>exB_len hg) (fun g hg=>exB_cap hg) (XM _ _ _)).mono ?_
 rintro e w' ⟨vj,rfl,hs,hB⟩
 rw [e_needs] at hs
 replace h:=(h.call hB).ints hs
 clear hs hB
 have k0:=h.cell (⟨bb,0,none⟩,.int .i64 1) (by simp)
 have k1:=h.cell (⟨bb,1,none⟩,.int .i64 5) (by simp)
 have k2:=h.cell (⟨bb,2,none⟩,.int .i64 50) (by simp)
 have k3:=h.cell (⟨bb,3,none⟩,.int .i64 2) (by simp)
 have k4:=h.cell (⟨bb,4,none⟩,.slice (some ⟨g1,0,none⟩) 2 2) (by simp)
 simp only at k0 k1 k2 k3 k4
 go_wp2
 clear k0 k1 k2 k3 k4
 go_at_call 24
 refine (Best_any (exB g1 a1 b1) 0 _ h.b1 h.gl).mono ?_
 rintro e w' ⟨he,hB⟩
 rw [e_best] at he
 subst he
 replace h:=h.call hB
 clear hB
 simp only [tv,fv]
 replace h:=h.box2 (.int .i64 36) (.int .i64 95) 23
 have k0:=h.cell (⟨bb,0,none⟩,.int .i64 1) (by simp)
 have k1:=h.cell (⟨bb,1,none⟩,.int .i64 5) (by simp)
 have k2:=h.cell (⟨bb,2,none⟩,.int .i64 50) (by simp)
 have k3:=h.cell (⟨bb,3,none⟩,.int .i64 2) (by simp)
 have k4:=h.cell (⟨bb,4,none⟩,.slice (some ⟨g1,0,none⟩) 2 2) (by simp)
 simp only at k0 k1 k2 k3 k4
 go_wp2
 clear k0 k1 k2 k3 k4
 generalize w'.alloc (.cells #[.int .i64 36,.int .i64 95] 23)=W at h ⊢
 generalize w'.heap.size=x6 at h ⊢
 go_at_call 26
 refine (qct (exB g1 a1 b1) 0 2 _ h.b1 h.gl).mono ?_
 rintro e w' ⟨hp,hB⟩
 unfold Qt at hp
 rw [if_pos (XM _ _ _),if_pos (show btw 0 0 (wrap64 ((exB g1 a1 b1).hours - 1))=true by kernel_rfl),if_pos (show btw 2 0 6=true by decide)] at hp
 obtain ⟨vm,rfl,hs⟩:=hp
 replace h:=(h.call hB).ints (zP (show SliceOf _ w' vm [1,0] from e_spread g1 a1 b1▸hs))
 clear hs hB
 have k0:=h.cell (⟨bb,0,none⟩,.int .i64 1) (by simp)
 have k1:=h.cell (⟨bb,1,none⟩,.int .i64 5) (by simp)
 have k2:=h.cell (⟨bb,2,none⟩,.int .i64 50) (by simp)
 have k3:=h.cell (⟨bb,3,none⟩,.int .i64 2) (by simp)
 have k4:=h.cell (⟨bb,4,none⟩,.slice (some ⟨g1,0,none⟩) 2 2) (by simp)
 simp only at k0 k1 k2 k3 k4
 go_wp2
 clear k0 k1 k2 k3 k4
 go_at_call 28
 refine (Sum_any (exB g1 a1 b1) 0 _ h.b1 h.gl).mono ?_
 rintro e w' ⟨he,hB⟩
 rw [e_sum] at he
 subst he
 replace h:=h.call hB
 clear hB
 simp only [tv,fv]
 have k0:=h.cell (⟨bc,0,none⟩,.int .i64 1) (by simp)
 have k1:=h.cell (⟨bc,1,none⟩,.int .i64 2) (by simp)
 have k2:=h.cell (⟨bc,2,none⟩,.int .i64 50) (by simp)
 have k3:=h.cell (⟨bc,3,none⟩,.int .i64 2) (by simp)
 have k4:=h.cell (⟨bc,4,none⟩,.slice (some ⟨g2,0,none⟩) 2 2) (by simp)
 simp only at k0 k1 k2 k3 k4
 go_wp2
 clear k0 k1 k2 k3 k4
 go_at_call 12
 refine (XG (exC g2 a2 b2) _ h.b2 h.gl).mono ?_
 intro e w' hp
 unfold QE at hp
 rw [if_pos (e_check2 _ _ _)] at hp
 obtain ⟨vo,rfl,hs,hB⟩:=hp
 replace h:=(h.call hB).ints (zP (show SliceOf _ w' vo [0,1] from e_good2 _ _ _▸hs))
 clear hs hB
 have k0:=h.cell (⟨bc,0,none⟩,.int .i64 1) (by simp)
 have k1:=h.cell (⟨bc,1,none⟩,.int .i64 2) (by simp)
 have k2:=h.cell (⟨bc,2,none⟩,.int .i64 50) (by simp)
 have k3:=h.cell (⟨bc,3,none⟩,.int .i64 2) (by simp)
 have k4:=h.cell (⟨bc,4,none⟩,.slice (some ⟨g2,0,none⟩) 2 2) (by simp)
 simp only at k0 k1 k2 k3 k4
 go_wp2
 clear k0 k1 k2 k3 k4
 go_at_call 20
 refine (Year_any (exC g2 a2 b2) _ h.b2 h.gl).mono ?_
 rintro e w' ⟨he,hB⟩
 rw [e_year] at he
 subst he
 replace h:=h.call hB
 clear hB
 simp only [tv,fv]
 have k0:=h.cell (⟨bb,0,none⟩,.int .i64 1) (by simp)
 have k1:=h.cell (⟨bb,1,none⟩,.int .i64 5) (by simp)
 have k2:=h.cell (⟨bb,2,none⟩,.int .i64 50) (by simp)
 have k3:=h.cell (⟨bb,3,none⟩,.int .i64 2) (by simp)
 have k4:=h.cell (⟨bb,4,none⟩,.slice (some ⟨g1,0,none⟩) 2 2) (by simp)
 simp only at k0 k1 k2 k3 k4
 go_wp2
 clear k0 k1 k2 k3 k4
 go_at_call 17
 refine (Grow_ok (exB g1 a1 b1) 1 _ h.b1 h.gl (XM _ _ _) (by decide)).mono ?_
 rintro e w' ⟨hp,hB⟩
 unfold qbE at hp
 rw [if_neg (fun x=>x (e_grow _ _ _).1)] at hp
 obtain ⟨gr,gc,gl,tb,rfl,hO⟩:=hp
 replace h:=h.call hB
 obtain ⟨ta0,tc0,ta1,tc1,hl2,q0,q1,q2,q3⟩:=qcH hO
 replace h:=((((h.add q0).add q1).fracs q2).fracs q3)
 clear hB hO q0 q1 q2 q3
 simp only [bv,exB]
 rw [hl2]
 clear hl2
 replace h:=h.box5 (.int .i64 1) (.int .i64 5) (.int .i64 50) (.int .i64 2) (.slice (some ⟨gr,0,none⟩) 2 gc) 26
 go_wp2
 have hWs:(w'.alloc (.cells #[.int .i64 1,.int .i64 5,.int .i64 50,.int .i64 2,.slice (some ⟨gr,0,none⟩) 2 gc] 26)).heap.size=w'.heap.size+1:=by simp
 generalize w'.alloc (.cells #[.int .i64 1,.int .i64 5,.int .i64 50,.int .i64 2,.slice (some ⟨gr,0,none⟩) 2 gc] 26)=W at h hWs ⊢
 rw [← hWs]
 clear hWs
 generalize w'.heap.size=xr at h ⊢
 go_at_call 22
 refine (Fits_any [(2,3),(4,4)] (some ⟨W.heap.size,0,none⟩) 2 2 _ (fun _=>⟨_,_,rfl,YH W 2 3 4 4 45⟩)).mono ?_
 rintro e w' ⟨he,hB⟩
 rw [e_fits] at he
 subst he
 replace h:=(h.call ((Below.refl _ W).alloc (Nat.le_refl _) _)).call hB
 clear hB
 simp only [tv,fv]
 replace h:=h.box2 (.int .i64 6) (.int .i64 7) 45
 have k0:=h.cell (⟨bb,0,none⟩,.int .i64 1) (by simp)
 have k1:=h.cell (⟨bb,1,none⟩,.int .i64 5) (by simp)
 have k2:=h.cell (⟨bb,2,none⟩,.int .i64 50) (by simp)
 have k3:=h.cell (⟨bb,3,none⟩,.int .i64 2) (by simp)
 have k4:=h.cell (⟨bb,4,none⟩,.slice (some ⟨g1,0,none⟩) 2 2) (by simp)
 simp only at k0 k1 k2 k3 k4
 go_wp2
 clear k0 k1 k2 k3 k4
 generalize w'.alloc (.cells #[.int .i64 6,.int .i64 7] 45)=W at h ⊢
 generalize w'.heap.size=x7 at h ⊢
 go_at_call 8
 refine (qbC (exB g1 a1 b1) 0 _ h.b1 h.gl).mono ?_
 rintro e w' ⟨he,hB⟩
 rw [e_busy] at he
 subst he
 replace h:=h.call hB
 clear hB
 simp only [tv,fv]
 go_wp2
 as_aux_lemma =>
  have x1a:=h.cell (⟨x1,0,none⟩,.int .i64 2) (by simp)
  have x1b:=h.cell (⟨x1,1,none⟩,.int .i64 5) (by simp)
  have x2a:=h.cell (⟨x2,0,none⟩,.int .i64 4) (by simp)
  have x2b:=h.cell (⟨x2,1,none⟩,.int .i64 5) (by simp)
  have x3a:=h.cell (⟨x3,0,none⟩,.int .i64 6) (by simp)
  have x3b:=h.cell (⟨x3,1,none⟩,.int .i64 5) (by simp)
  have x4a:=h.cell (⟨x4,0,none⟩,.int .i64 1) (by simp)
  have x4b:=h.cell (⟨x4,1,none⟩,.int .i64 1) (by simp)
  have x5a:=h.cell (⟨x5,0,none⟩,.int .i64 1) (by simp)
  have x5b:=h.cell (⟨x5,1,none⟩,.int .i64 5) (by simp)
  have x6a:=h.cell (⟨x6,0,none⟩,.int .i64 36) (by simp)
  have x6b:=h.cell (⟨x6,1,none⟩,.int .i64 95) (by simp)
  have x7a:=h.cell (⟨x7,0,none⟩,.int .i64 6) (by simp)
  have x7b:=h.cell (⟨x7,1,none⟩,.int .i64 7) (by simp)
  simp only at x1a x1b x2a x2b x3a x3b x4a x4b x5a x5b x6a x6b x7a x7b
  have ii:=h.is (vi,[]) (by simp)
  have ij:=h.is (vj,[2,4]) (by simp)
  have im:=h.is (vm,[1,0]) (by simp)
  have io:=h.is (vo,[0,1]) (by simp)
  simp only at ii ij im io
  obtain ⟨ai,ci,rfl,_⟩:=ii
  have hS0:LS w' x1 x2 x3 x4 x5 x6 x7 w':=⟨x1a,x1b,x2a,x2b,x3a,x3b,x4a,x4b,x5a,x5b,x6a,x6b,x7a,x7b,Below.refl _ _⟩
  have hbel:∀X,LS w' x1 x2 x3 x4 x5 x6 x7 X→Below w'.heap.size w' X:=fun X h=>LS.bel h
  have HI:=Lib.hid (And.intro ij (And.intro im io))
  have HH:=Lib.hid h
  clear ij im io h x1a x1b x2a x2b x3a x3b x4a x4b x5a x5b x6a x6b x7a x7b
  simp only [List.length_nil]
  dsimp only [List.append]
  go_region_held3 (LS w' x1 x2 x3 x4 x5 x6 x7) (first | exact LS.drew hS0 | (refine LS.call ?_ hB;with_reducible assumption) | (refine LS.call ?_ hB;assumption) | (refine LS.alloc ?_ _;with_reducible assumption) | (refine LS.alloc ?_ _;assumption)) (first | (go_at_call 33;(with_reducible refine (hof _ _ _).mono ?_);rintro e wx ⟨rfl,hB⟩) | (go_at_call 40;(first | (with_reducible refine (Je vj _ [2,4] [2,4] _ (HI.out.1.keep (hbel _ (by assumption))) (Ja _ _ _ _) (by decide) (by decide)).mono ?_) | (with_reducible refine (Je vm _ [1,0] [1,0] _ (HI.out.2.1.keep (hbel _ (by assumption))) (Ja _ _ _ _) (by decide) (by decide)).mono ?_) | (with_reducible refine (Je vo _ [0,1] [0,1] _ (HI.out.2.2.keep (hbel _ (by assumption))) (Ja _ _ _ _) (by decide) (by decide)).mono ?_));rintro e wx ⟨rfl,hB⟩))
  go_wp2
  all_goals
   as_aux_lemma =>
    rename_i hHeld K hK
    have h:=HH.out.call (hbel _ hHeld)
    have c0:=h.cell (⟨xr,4,none⟩,.slice (some ⟨gr,0,none⟩) 2 gc) (by simp)
    have c1:=h.cell (⟨gr,2,none⟩,.slice ta0 2 tc0) (by simp)
    have c2:=h.cell (⟨gr,5,none⟩,.slice ta1 2 tc1) (by simp)
    have f0:=h.fr (.slice ta0 2 tc0,[(2,1),(2,2)]) (by simp)
    have f1:=h.fr (.slice ta1 2 tc1,[(3,1),(2,1)]) (by simp)
    have hbw:=h.bw
    simp only at c0 c1 c2 f0 f1
    clear hS0 hbel HI HH hHeld h
    have hS1:LR wx xr gr gc tc0 tc1 ta0 ta1 wx:=⟨c0,c1,c2,Below.refl _ _⟩
    have hbel:∀X,LR wx xr gr gc tc0 tc1 ta0 ta1 X→Below wx.heap.size wx X:=fun X h=>h.2.2.2
    have FF:=Lib.hid (And.intro f0 f1)
    clear c0 c1 c2 f0 f1
    go_region_held3 (LR wx xr gr gc tc0 tc1 ta0 ta1) (first | exact LR.drew hS1 | (refine LR.call ?_ hB;with_reducible assumption) | (refine LR.call ?_ hB;assumption) | (refine LR.alloc ?_ _;with_reducible assumption) | (refine LR.alloc ?_ _;assumption)) (first | (go_at_call 33;(with_reducible refine (hof _ _ _).mono ?_);rintro e wy ⟨rfl,hB⟩) | (go_at_call 41;(first | (with_reducible refine (jC (.slice ta0 2 tc0) _ [(2,1),(2,2)] [(2,1),(2,2)] _ (FF.out.1.keep (hbel _ (by assumption))) (JK _ _ _ _ _ _) (by decide) (by decide)).mono ?_) | (with_reducible refine (jC (.slice ta1 2 tc1) _ [(3,1),(2,1)] [(3,1),(2,1)] _ (FF.out.2.keep (hbel _ (by assumption))) (JK _ _ _ _ _ _) (by decide) (by decide)).mono ?_));rintro e wy ⟨rfl,hB⟩))
    all_goals (rename_i hH;go_wp2;go_ret;exact ⟨rfl,bcl hbw (hbel _ hH)⟩)
 end Go.Proofs.Tryz
end
