/-
  Lemmas about the program and the machine (Q53 to Q52), upon which the last text of this claim rests; no condition.
-/
import Derived.Test.YtjkbbnphdbgjiaaGreatDoorEz19
import Derived.Test.YtjkbbnphdbgjiaaGreatDoorEz18
set_option linter.unusedSimpArgs false
set_option linter.unusedVariables false
set_option maxRecDepth 100000
set_option maxHeartbeats 4000000
namespace Go.Proofs.Tryz
open Go Go.Load Go.LoadR Go.RowKit
def ayrS:ByteArray:=⟨#[97,121,114]⟩
def buteS:ByteArray:=⟨#[98,117,116,101]⟩
def qcb:ByteArray:=⟨#[99,114,101,119,101]⟩
def exD(s g:Nat):DayM :=
 ⟨[ayrS,buteS,qcb],some ⟨s,0,none⟩,3,[⟨0,1,1,1⟩,⟨0,2,1,2⟩,⟨2,1,1,1⟩],some ⟨g,0,none⟩,3,
  [⟨0,1,[⟨[0],some ⟨g+1,0,none⟩,1⟩,⟨[1,2],some ⟨g+2,0,none⟩,2⟩],some ⟨g+3,0,none⟩,2⟩,⟨0,2,[⟨[1],some ⟨g+4,0,none⟩,1⟩],some ⟨g+5,0,none⟩,1⟩],some ⟨g+6,0,none⟩,2,
  [],none,0,[⟨0,1,0,9,-2⟩,⟨0,1,1,6,-2⟩,⟨0,2,2,8,-2⟩,⟨0,1,6,9,-2⟩],some ⟨g+7,0,none⟩,4⟩
theorem sort_of{l s:List Int}(hp:l.Perm s)(hs:s.Pairwise fun x y=>decide (x<=y)=true):l.mergeSort (fun x y=>decide (x<=y))=s:=by
 refine List.Perm.eq_of_pairwise (le:=fun x y=>decide (x<=y)=true) ?_ (List.pairwise_mergeSort ?_ ?_ l) hs ((List.mergeSort_perm l _).trans hp)
 ·intro a b _ _ h1 h2;have:=of_decide_eq_true h1;have:=of_decide_eq_true h2;omega
 ·intro a b c h1 h2;have:=of_decide_eq_true h1;have:=of_decide_eq_true h2;exact decide_eq_true (by omega)
 ·intro a b;by_cases h:a<=b
  ·simp[h]
  ·have:b<=a:=(by omega);simp[this]
theorem QV{l m s r:List Int}(hl:l=m)(hp:m.Perm s)(hs:s.Pairwise fun x y=>decide (x<=y)=true)(hc:Lib.compact s=r):qN l=r:=by
 unfold qN;rw[hl,sort_of hp hs,hc]
theorem jM(s g:Nat):DaySm (exD s g):=by
 refine⟨by show(3:Nat)<=20/\(3:Nat)<=3;decide,?_,by show(3:Nat)<=20/\(3:Nat)<=3;decide,by show(2:Nat)<=20/\(2:Nat)<=2;decide,?_,?_,by show(0:Nat)<=20/\(0:Nat)<=0;decide,by show(4:Nat)<=20/\(4:Nat)<=4;decide⟩
 ·intro x hx;simp only[exD,List.mem_cons,List.not_mem_nil,or_false]at hx;rcases hx with rfl|rfl|rfl;all_goals exact Nat.le_of_ble_eq_true rfl
 ·intro o ho;simp only[exD,List.mem_cons,List.not_mem_nil,or_false]at ho;rcases ho with rfl|rfl;all_goals exact⟨Nat.le_of_ble_eq_true rfl,Nat.le_of_ble_eq_true rfl⟩
 ·intro o ho x hx;simp only[exD,List.mem_cons,List.not_mem_nil,or_false]at ho;rcases ho with rfl|rfl;all_goals simp only[List.mem_cons,List.not_mem_nil,or_false]at hx
  ·rcases hx with rfl|rfl;all_goals exact⟨Nat.le_of_ble_eq_true rfl,Nat.le_of_ble_eq_true rfl⟩
  ·subst hx;exact⟨Nat.le_of_ble_eq_true rfl,Nat.le_of_ble_eq_true rfl⟩
theorem Yo(s g:Nat):checkN (exD s g)=0:=by kernel_rfl
theorem Qa(s g:Nat):qx (exD s g)=[⟨1,1,1,0⟩,⟨1,2,1,0⟩]:=by kernel_rfl
theorem QE(s g:Nat):zt (exD s g) 0=0:=by
 unfold zt;rw[Yo,Qa];rfl
theorem ex_play(s g:Nat):qD (exD s g) (setOf (qC [1,1,1]))=[0,1,-1,1]:=by kernel_rfl
theorem ex_playA(s g:Nat):jv (exD s g) [1,1,1]=0:=by
 unfold jv;rw[Yo];rfl
theorem qce(s g:Nat):yP (exD s g) 2=[-1,0]:=by
 unfold yP;rw[Qa];exact QV (m:=[-1,0]) (s:=[-1,0]) (by kernel_rfl) (List.Perm.refl _) (by decide) (by decide +kernel)
theorem ex_goes3(s g:Nat):yP (exD s g) 3=[1]:=by
 unfold yP;rw[Qa];exact QV (m:=[1,1]) (s:=[1,1]) (by kernel_rfl) (List.Perm.refl _) (by decide) (by decide +kernel)
theorem ex_lost(s g:Nat):qai (exD s g)=[0,1]:=by
 unfold qai;rw[Qa];exact QV (m:=[1,0]) (s:=[0,1]) (by kernel_rfl) (List.Perm.swap 0 1 []) (by decide) (by decide +kernel)
theorem ex_free(s g:Nat):JX (exD s g) 1 5=[0]:=by
 unfold JX;rw[Qa];exact QV (m:=[0,0]) (s:=[0,0]) (by kernel_rfl) (List.Perm.refl _) (by decide) (by decide +kernel)
theorem ex_ask(s g:Nat):askN (exD s g)=(2,1):=by kernel_rfl
theorem ex_more(s g:Nat):moreN (exD s g)=(0,0):=by kernel_rfl
theorem ex_ext(s g:Nat):extN (exD s g)=some ⟨0,1,0,0⟩:=by kernel_rfl
theorem ex_os{s g:Nat}{l:List OrdM}(h:l.map ordK=(exD s g).os.map ordK):∃(a1 a2 a3 a4 a5:Option Addr) (c1 c2 c3 c4 c5:Nat),l=[⟨0,1,[⟨[0],a1,c1⟩,⟨[1,2],a2,c2⟩],a3,c3⟩,⟨0,2,[⟨[1],a4,c4⟩],a5,c5⟩]:=by
 have hl:l.length=2:=by have:=congrArg List.length h;simpa[exD]using this
 match l,hl with
 | [⟨f1,t1,w1,a1,c1⟩,⟨f2,t2,w2,a2,c2⟩],_ =>
   have h':[(f1,t1,w1.map (·.l)),(f2,t2,w2.map (·.l))]=[((0:Int),(1:Int),[[(0:Int)],[1,2]]),(0,2,[[1]])]:=h;simp only[List.cons.injEq,Prod.mk.injEq,and_true]at h';obtain⟨⟨rfl,rfl,hw1⟩,rfl,rfl,hw2⟩:=h';have hl1:w1.length=2:=(by have:=congrArg List.length hw1;simpa using this);have hl2:w2.length=1:=by have:=congrArg List.length hw2;simpa using this
   match w1,w2,hl1,hl2 with
   | [⟨l1,b1,d1⟩,⟨l2,b2,d2⟩],[⟨l3,b3,d3⟩],_,_ =>
     simp only[List.map_cons,List.map_nil,List.cons.injEq,and_true]at hw1 hw2;obtain⟨rfl,rfl⟩:=hw1;obtain rfl:=hw2;exact⟨_,_,_,_,_,_,_,_,_,_,rfl⟩
theorem Jh{s g:Nat}{D':DayM}(h:SameD D' (qfL (exD s g) 2 (-1))):zt D' 0=0/\zt D' (za 2 D'.cs.length)=0/\(qx D').any (fun p => !qdz D' 2 p 0)=false/\jQ (XF D' 2) (2 ^ D'.cs.length)=some [0]:=by
 obtain⟨h1,h2,h3,h4,h5⟩:=h;obtain⟨a1,a2,a3,a4,a5,c1,c2,c3,c4,c5,h3⟩:=ex_os (s:=s) (g:=g) h3;obtain⟨ts,ta,tc,gs,ga,gc,os,oa,oc,hs,ha,hc,cs,ca,cc⟩:=D';have h1:ts=(exD s g).ts:=h1;have h2:gs=(exD s g).gs:=h2;have h4:hs=[]:=h4;have h5:cs=[⟨0,1,0,9,-2⟩,⟨0,1,1,6,-2⟩,⟨0,2,2,8,-1⟩,⟨0,1,6,9,-2⟩]:=h5;have h3:os=_:=h3;subst h1 h2 h3 h4 h5;exact⟨by kernel_rfl,by kernel_rfl,by kernel_rfl,by kernel_rfl⟩
section
variable {s g:Nat} {w:World}
def NumsP(n:Nat)(L:List Int)(rest:Value->Value)(w:World)(e:Ending)(w':World):Prop :=
 Below w.heap.size w w'/\∃a c,e=.returned (rest (.slice a n c))/\n<=c/\qi w' 1 encI a L
theorem x_play(h:DayAt w (exD s g))(hG:Globs w)(a:Option Addr)(hr:qi w 1 encI a [1,1,1]):Calls qp 23 #[dv (exD s g),.slice a 3 3] w (NumsP 4 [0,1,-1,1] (fun v=>.tuple #[v,.int .i64 0]) w) :=
 (play_top (exD s g) w h (jM s g) hG [1,1,1] a 3 (by decide) (by decide) hr).mono fun e w' hp=>by
   obtain⟨hB,h1|h1⟩:=hp
   ·exact absurd (ex_playA s g) h1.1
   ·obtain⟨_,a,c,rfl,hc,hr⟩:=h1;rw[ex_play]at hr hc⊢;exact⟨hB,a,c,rfl,hc,hr⟩
theorem x_hist(h:DayAt w (exD s g))(hG:Globs w):Calls qp 27 #[dv (exD s g)] w fun e w'=>e=.returned (.tuple #[.int .i64 2,.int .i64 0])/\Below w.heap.size w w' :=
 (Jo (exD s g) w h (jM s g) hG).mono fun e w' hp=>by
   obtain⟨rfl,hB⟩:=hp;rw[Yo,Qa];exact⟨rfl,hB⟩
theorem qep(s g:Nat):zt (exD s g) (za 2 (exD s g).cs.length)=0:=QE s g
theorem ex_ask3(s g:Nat):zt (exD s g) (za 3 (exD s g).cs.length)=0:=QE s g
theorem ex_askF(s g:Nat):zt (exD s g) (ZA (exD s g) 1 5)=0:=QE s g
theorem x_goes(h:DayAt w (exD s g))(hG:Globs w):Calls qp 9 #[dv (exD s g),.int .i64 2] w (NumsP 2 [-1,0] (fun v=>.tuple #[v,.int .i64 0]) w) :=
 (Yq (exD s g) w h (jM s g) hG 2).mono fun e w' hp=>by
   obtain⟨hB,h1|h1⟩:=hp
   ·exact absurd (qep s g) h1.1
   ·obtain⟨_,a,c,rfl,hc,hr⟩:=h1;rw[show(2:Int).toNat=2 from rfl,qce]at hr hc⊢;exact⟨hB,a,c,rfl,hc,hr⟩
theorem x_ref2(h:DayAt w (exD s g))(hG:Globs w):Calls qp 12 #[dv (exD s g),.int .i64 2] w fun e w'=>e=.returned (.tuple #[.int .i64 0,.int .i64 0])/\Below w.heap.size w w' :=
 (jA (exD s g) w h (jM s g) hG 2).mono fun e w' hp=>by
   obtain⟨rfl,hB⟩:=hp;rw[qep,show(2:Int).toNat=2 from rfl,qce];exact⟨rfl,hB⟩
theorem x_ref3(h:DayAt w (exD s g))(hG:Globs w):Calls qp 12 #[dv (exD s g),.int .i64 3] w fun e w'=>e=.returned (.tuple #[.int .i64 2,.int .i64 0])/\Below w.heap.size w w' :=
 (jA (exD s g) w h (jM s g) hG 3).mono fun e w' hp=>by
   obtain⟨rfl,hB⟩:=hp;rw[ex_ask3,show(3:Int).toNat=3 from rfl,ex_goes3];exact⟨rfl,hB⟩
theorem x_lost(h:DayAt w (exD s g))(hG:Globs w):Calls qp 16 #[dv (exD s g)] w fun e w'=>e=.returned (.tuple #[.agg #[.int .i64 0,.int .i64 1],.int .i64 0])/\Below w.heap.size w w' :=
 (Js (exD s g) w h (jM s g) hG).mono fun e w' hp=>by
   obtain⟨hB,h1|h1⟩:=hp
   ·exact absurd (QE s g) h1.1
   ·rw[ex_lost]at h1;exact⟨h1.2,hB⟩
theorem x_free(h:DayAt w (exD s g))(hG:Globs w):Calls qp 14 #[dv (exD s g),.int .i64 1,.int .i64 5] w fun e w'=>e=.returned (.tuple #[.agg #[.int .i64 0,.int .i64 0],.int .i64 0])/\Below w.heap.size w w' :=
 (Jl (exD s g) w h (jM s g) hG 1 5).mono fun e w' hp=>by
   obtain⟨hB,h1|h1⟩:=hp
   ·exact absurd (ex_askF s g) h1.1
   ·rw[show(1:Int).toNat=1 from rfl,ex_free]at h1;exact⟨h1.2,hB⟩
theorem x_ask(h:DayAt w (exD s g))(hG:Globs w):Calls qp 38 #[dv (exD s g)] w fun e w'=>e=.returned (.tuple #[.int .i64 2,.int .i64 1,.int .i64 0])/\Below w.heap.size w w' :=
 (ask_top (exD s g) w h (jM s g) hG).mono fun e w' hp=>by
   obtain⟨hB,h1|h1⟩:=hp
   ·exact absurd (QE s g) h1.1
   ·rw[ex_ask]at h1;exact⟨h1.2,hB⟩
theorem x_more(h:DayAt w (exD s g))(hG:Globs w):Calls qp 20 #[dv (exD s g)] w fun e w'=>e=.returned (.tuple #[.int .i64 0,.int .i64 0,.int .i64 0])/\Below w.heap.size w w' :=
 (more_top (exD s g) w h (jM s g) hG).mono fun e w' hp=>by
   obtain⟨hB,h1|h1⟩:=hp
   ·exact absurd (QE s g) h1.1
   ·rw[ex_more]at h1;exact⟨h1.2,hB⟩
theorem x_ext(h:DayAt w (exD s g))(hG:Globs w):Calls qp 41 #[dv (exD s g)] w (NumsP 3 [0,1,0] (fun v=>.tuple #[v,.bool true,.int .i64 0]) w) :=
 (qcW (exD s g) w h (jM s g) hG).mono fun e w' hp=>by
   obtain⟨hB,h1|h1⟩:=hp
   ·exact absurd (QE s g) h1.1
   ·rw[ex_ext]at h1;obtain⟨_,a,c,rfl,hc,hr⟩:=h1;exact⟨hB,a,c,rfl,hc,hr⟩
theorem x_see(h:DayAt w (exD s g))(hG:Globs w):Calls qp 39 #[dv (exD s g),.int .i64 2,.int .i64 (-1)] w fun e w'=>Below w.heap.size w w'/\∃D',SameD D' (qfL (exD s g) 2 (-1))/\DaySm D'/\DayAt w' D'/\e=.returned (.tuple #[dv D',.int .i64 0]) :=
 (see_ok (exD s g) w h (jM s g) hG (Yo s g) 2 (-1) ⟨0,2,2,8,-2⟩ rfl (by decide) (by show(-1:Int)<(1:Nat);decide) rfl).mono fun e w' hp=>by
   obtain⟨hB,D',h1,h2,h3,h4|h4⟩:=hp
   ·exact absurd (Jh h1).1 h4.1
   ·exact⟨hB,D',h1,h2,h3,h4.2⟩
theorem x_bec{D':DayM}(hD:SameD D' (qfL (exD s g) 2 (-1)))(hs:DaySm D')(h:DayAt w D')(hG:Globs w):Calls qp 40 #[dv D',.int .i64 2] w (NumsP 1 [0] (fun v=>.tuple #[v,.int .i64 0]) w) :=
 (qaX D' w h hs hG 2).mono fun e w' hp=>by
   obtain⟨hB,q,al,rfl,h1|h1⟩:=hp
   ·exact absurd (Jh hD).2.1 h1.1
   ·obtain⟨_,hr⟩:=h1;unfold BecR at hr;rw[show(2:Int).toNat=2 from rfl,(Jh hD).2.2.1,(Jh hD).2.2.2]at hr;simp only[Bool.false_eq_true,if_false]at hr;obtain⟨rfl,a,c,rfl,hc,hr⟩:=hr;exact⟨hB,a,c,rfl,hc,hr⟩
end
def exA(w3:World):World:=((((((((w3.alloc (Obj.cells #[.int .i64 0,.int .i64 1,.int .i64 1,.int .i64 1,.int .i64 0,.int .i64 2,.int .i64 1,.int .i64 2,.int .i64 2,.int .i64 1,.int .i64 1,.int .i64 1] 120)).alloc (Obj.cells #[.int .i64 0] 3)).alloc (Obj.cells #[.int .i64 1,.int .i64 2] 3)).alloc (Obj.cells #[.slice (some ⟨w3.heap.size+1,0,none⟩) 1 1,.slice (some ⟨w3.heap.size+2,0,none⟩) 2 2] 31)).alloc (Obj.cells #[.int .i64 1] 3)).alloc (Obj.cells #[.slice (some ⟨w3.heap.size+4,0,none⟩) 1 1] 31)).alloc (Obj.cells #[.int .i64 0,.int .i64 1,.slice (some ⟨w3.heap.size+3,0,none⟩) 2 2,.int .i64 0,.int .i64 2,.slice (some ⟨w3.heap.size+5,0,none⟩) 1 1] 65)).alloc (Obj.cells #[.int .i64 0,.int .i64 1,.int .i64 0,.int .i64 9,.int .i64 (-2),.int .i64 0,.int .i64 1,.int .i64 1,.int .i64 6,.int .i64 (-2),.int .i64 0,.int .i64 2,.int .i64 2,.int .i64 8,.int .i64 (-2),.int .i64 0,.int .i64 1,.int .i64 6,.int .i64 9,.int .i64 (-2)] 99))
theorem new_cell(W:World)(cs:Array Value)(ty:TypeId)(j:Nat)(h:j<cs.size):(W.alloc (.cells cs ty)).cell? ⟨W.heap.size,j,none⟩=some cs[j]:=by
 unfold World.cell? World.alloc;simp[h]
theorem qi.more{α:Type}{W:World}{k:Nat}{enc:α->List Value}{a:Option Addr}{l:List α}(h:qi W k enc a l){o:Obj}:qi (W.alloc o) k enc a l:=h.keep ((Below.refl _ W).alloc ql o)
theorem yJ{α:Type}{k:Nat}{enc:α->List Value}(he:∀x,(enc x).length=k)(l:List α)(W:World)(vs:Array Value)(ty:TypeId)(hv:vs.toList=l.flatMap enc)(b:Nat)(hb:W.heap.size=b):qi (W.alloc (Obj.cells vs ty)) k enc (some ⟨b,0,none⟩) l:=fun _=>by
 subst hb;refine⟨_,_,rfl,fun i x hx j v hj=>?_⟩;have h1:=flat_get he l i j x v hx hj;rw[<-hv]at h1
 have h2:i*k+j<vs.size:=by
  have:=(qB h1).1;simpa using this
 rw[Nat.zero_add];have h3:=new_cell W vs ty (i*k+j) h2;rw[h3];rw[Array.getElem?_toList]at h1;rw[Array.getElem?_eq_getElem h2]at h1;exact h1
theorem qaR(w:World):Calls qp 37 #[] w fun e w'=>Below w.heap.size w w'/\∃s g,e=.returned (dv (exD s g))/\DayAt w' (exD s g):=by
 have hto:=fun a b W=>qfZ a b W;go_enter (sf 37 f37),ntmps37;go_wp2;go_at_call 34;refine(hto _ _ _).mono ?_;rintro e w1 ⟨rfl,h1⟩;have B1:Below w.heap.size w w1:=bcl (w:=w) (by go_grown) h1;have T1:qi w1 1 encS (some ⟨w.heap.size+1,0,none⟩) [ayrS,buteS,qcb]:=(yJ (k:=1) (enc:=encS) (fun _=>rfl) [ayrS,buteS,qcb] (w.alloc (Obj.cells #[.slice none 0 0,.slice none 0 0,.slice none 0 0,.slice none 0 0,.slice none 0 0] 28)) #[.string ayrS,.string buteS,.string qcb] 9 rfl (w.heap.size+1) (by simp)).keep h1;have c0:w1.cell? ⟨w.heap.size,0,none⟩=some (.slice none 0 0):=qb _ h1 (by go_cell);have f0:w1.frozen? ⟨w.heap.size,0,none⟩=false:=qf _ h1 (v:=.slice none 0 0) (by go_cell) (by go_cell);have c1:w1.cell? ⟨w.heap.size,1,none⟩=some (.slice none 0 0):=qb _ h1 (by go_cell);have f1:w1.frozen? ⟨w.heap.size,1,none⟩=false:=qf _ h1 (v:=.slice none 0 0) (by go_cell) (by go_cell);have c2:w1.cell? ⟨w.heap.size,2,none⟩=some (.slice none 0 0):=qb _ h1 (by go_cell);have f2:w1.frozen? ⟨w.heap.size,2,none⟩=false:=qf _ h1 (v:=.slice none 0 0) (by go_cell) (by go_cell);have c3:w1.cell? ⟨w.heap.size,3,none⟩=some (.slice none 0 0):=qb _ h1 (by go_cell);have f3:w1.frozen? ⟨w.heap.size,3,none⟩=false:=qf _ h1 (v:=.slice none 0 0) (by go_cell) (by go_cell);have c4:w1.cell? ⟨w.heap.size,4,none⟩=some (.slice none 0 0):=qb _ h1 (by go_cell);have f4:w1.frozen? ⟨w.heap.size,4,none⟩=false:=qf _ h1 (v:=.slice none 0 0) (by go_cell) (by go_cell);have z1:=h1.size;simp at z1;clear h1;go_wp2;go_at_call 34;refine(hto _ _ _).mono ?_
 rintro e w2 ⟨rfl,h2⟩;have f0:=qf _ h2 c0 f0;have c0:=qb _ h2 c0;have f1:=qf _ h2 c1 f1;have c1:=qb _ h2 c1;have f2:=qf _ h2 c2 f2;have c2:=qb _ h2 c2;have f3:=qf _ h2 c3 f3;have c3:=qb _ h2 c3;have f4:=qf _ h2 c4 f4;have c4:=qb _ h2 c4;have B2:=bcl B1 h2;have T2:=T1.keep h2;have z2:=h2.size;clear B1 T1 h2;go_wp2;go_at_call 34;refine(hto _ _ _).mono ?_;rintro e w3 ⟨rfl,h3⟩;have f0:=qf _ h3 c0 f0;have c0:=qb _ h3 c0;have f1:=qf _ h3 c1 f1;have c1:=qb _ h3 c1;have f2:=qf _ h3 c2 f2;have c2:=qb _ h3 c2;have f3:=qf _ h3 c3 f3;have c3:=qb _ h3 c3;have f4:=qf _ h3 c4 f4;have c4:=qb _ h3 c4;have B3:=bcl B2 h3;have T3:=T2.keep h3;have z3:=h3.size;clear B2 T2 h3 hto;have hB8:Below w3.heap.size w3 (exA w3):=by unfold exA;go_grown
 have hm:w.heap.size+2<=w3.heap.size:=by omega
 have d0:=qb _ hB8 c0;have e0:=qf _ hB8 c0 f0;have d1:=qb _ hB8 c1;have e1:=qf _ hB8 c1 f1;have d2:=qb _ hB8 c2;have e2:=qf _ hB8 c2 f2;have d3:=qb _ hB8 c3;have e3:=qf _ hB8 c3 f3;have d4:=qb _ hB8 c4;have e4:=qf _ hB8 c4 f4
 have R0:qi (exA w3) 4 JV (some ⟨w3.heap.size+0,0,none⟩) [⟨0,1,1,1⟩,⟨0,2,1,2⟩,⟨2,1,1,1⟩]:=by
  unfold exA;exact(yJ (k:=4) (enc:=JV) (fun _=>rfl) _ _ _ _ (by rfl) _ (by simp)).more.more.more.more.more.more.more
 have R1:qi (exA w3) 1 encI (some ⟨w3.heap.size+1,0,none⟩) [0]:=by
  unfold exA;exact(yJ (k:=1) (enc:=encI) (fun _=>rfl) _ _ _ _ (by rfl) _ (by simp)).more.more.more.more.more.more
 have R2:qi (exA w3) 1 encI (some ⟨w3.heap.size+2,0,none⟩) [1,2]:=by
  unfold exA;exact(yJ (k:=1) (enc:=encI) (fun _=>rfl) _ _ _ _ (by rfl) _ (by simp)).more.more.more.more.more
 have R3:qi (exA w3) 1 xu (some ⟨w3.heap.size+3,0,none⟩) [⟨[0],some ⟨w3.heap.size+1,0,none⟩,1⟩,⟨[1,2],some ⟨w3.heap.size+2,0,none⟩,2⟩]:=by
  unfold exA;exact(yJ (k:=1) (enc:=xu) (fun _=>rfl) _ _ _ _ (by rfl) _ (by simp)).more.more.more.more
 have R4:qi (exA w3) 1 encI (some ⟨w3.heap.size+4,0,none⟩) [1]:=by
  unfold exA;exact(yJ (k:=1) (enc:=encI) (fun _=>rfl) _ _ _ _ (by rfl) _ (by simp)).more.more.more
 have R5:qi (exA w3) 1 xu (some ⟨w3.heap.size+5,0,none⟩) [⟨[1],some ⟨w3.heap.size+4,0,none⟩,1⟩]:=by
  unfold exA;exact(yJ (k:=1) (enc:=xu) (fun _=>rfl) _ _ _ _ (by rfl) _ (by simp)).more.more
 have R6:qi (exA w3) 3 Yf (some ⟨w3.heap.size+6,0,none⟩) (exD (w.heap.size+1) w3.heap.size).os:=by
  unfold exA;exact(yJ (k:=3) (enc:=Yf) (fun _=>rfl) _ _ _ _ (by rfl) _ (by simp)).more
 have R7:qi (exA w3) 5 YQ (some ⟨w3.heap.size+7,0,none⟩) (exD (w.heap.size+1) w3.heap.size).cs:=by
  unfold exA;exact(yJ (k:=5) (enc:=YQ) (fun _=>rfl) _ _ _ _ (by rfl) _ (by simp))
 have HR:=qd (qg R0 (qg R1 (qg R2 (qg R3 (qg R4 (qg R5 (qg R6 R7)))))));have HB:=qd (qg hB8 (qg B3 T3));clear R0 R1 R2 R3 R4 R5 R6 R7 hB8 B3 T3;unfold exA at d0 d1 d2 d3 d4 e0 e1 e2 e3 e4;go_wp2;refine LoadR.ret_c5 results37 jZ jf rfl d0 d1 d2 d3 d4 ?_;obtain⟨R0,R1,R2,R3,R4,R5,R6,R7⟩:=HR.out;refine⟨Below.set5 (bcl HB.out.2.1 HB.out.1) ql,w.heap.size+1,w3.heap.size,rfl,?_⟩;refine⟨zW (HB.out.2.2.keep HB.out.1) (by omega),zW R0 (by omega),zW R6 (by omega),?_,?_,?_,zW R7 (by omega)⟩
 ·intro o ho;simp only[exD,List.mem_cons,List.not_mem_nil,or_false]at ho;rcases ho with rfl|rfl
  ·exact zW R3 (by omega)
  ·exact zW R5 (by omega)
 ·intro o ho x hx;simp only[exD,List.mem_cons,List.not_mem_nil,or_false]at ho;rcases ho with rfl|rfl;all_goals simp only[List.mem_cons,List.not_mem_nil,or_false]at hx
  ·rcases hx with rfl|rfl
   ·exact zW R1 (by omega)
   ·exact zW R2 (by omega)
  ·subst hx;exact zW R4 (by omega)
 ·intro h;exact absurd h (by show ¬(1:Nat)<=0;omega)
end Go.Proofs.Tryz
