/-
  Lemmas about the program and the machine (DB to DB), upon which the last text of this claim rests; no condition.
-/
import Derived.Test.YtjkbbnphdbgjiaaGreatDoorCz16
set_option linter.unusedSimpArgs false
set_option linter.unusedVariables false
namespace Go.Proofs.Tryz
open Go Go.Load Go.LoadR Go.RowKit
def yf:List Int->Int×Int
 | []=>(0,0)
 | x::l=>l.foldl (fun b n=>(min b.1 n,max b.2 n)) (x,x)
theorem qak(l:List Int)(n:Int):yf (l++[n])=if l.length=0 then(n,n)else(min (yf l).1 n,max (yf l).2 n):=by
 cases l with
 | nil=>rfl
 | cons x l =>
   rw[if_neg (by simp)];show(l++[n]).foldl _ (x,x)=_;rw[List.foldl_append];rfl
theorem qcH(l:List Int)(h:l≠[]):(yf l).1∈l/\(yf l).2∈l/\∀x∈l,(yf l).1<=x/\x<=(yf l).2:=by
 cases l with
 | nil=>exact absurd rfl h
 | cons x l =>
   show(l.foldl (fun(b:Int×Int) n=>(min b.1 n,max b.2 n)) (x,x)).1∈_/\(l.foldl (fun(b:Int×Int) n=>(min b.1 n,max b.2 n)) (x,x)).2∈_/\∀y∈x::l,(l.foldl (fun(b:Int×Int) n=>(min b.1 n,max b.2 n)) (x,x)).1<=y/\y<=(l.foldl (fun(b:Int×Int) n=>(min b.1 n,max b.2 n)) (x,x)).2
   have key:∀(l:List Int) (p q:Int),p<=q->((l.foldl (fun(b:Int×Int) n=>(min b.1 n,max b.2 n)) (p,q)).1=p\/(l.foldl (fun(b:Int×Int) n=>(min b.1 n,max b.2 n)) (p,q)).1∈l)/\((l.foldl (fun(b:Int×Int) n=>(min b.1 n,max b.2 n)) (p,q)).2=q\/(l.foldl (fun(b:Int×Int) n=>(min b.1 n,max b.2 n)) (p,q)).2∈l)/\(l.foldl (fun(b:Int×Int) n=>(min b.1 n,max b.2 n)) (p,q)).1<=p/\q<=(l.foldl (fun(b:Int×Int) n=>(min b.1 n,max b.2 n)) (p,q)).2/\∀y∈l,(l.foldl (fun(b:Int×Int) n=>(min b.1 n,max b.2 n)) (p,q)).1<=y/\y<=(l.foldl (fun(b:Int×Int) n=>(min b.1 n,max b.2 n)) (p,q)).2:=by
    intro l
    induction l with
    | nil=>intro p q hpq;exact⟨.inl rfl,.inl rfl,Int.le_refl _,Int.le_refl _,fun y hy=>by cases hy⟩
    | cons n l ih =>
      intro p q hpq;rw[List.foldl_cons];obtain⟨h1,h2,h3,h4,h5⟩:=ih (min p n) (max q n) (by omega)
      generalize l.foldl (fun(b:Int×Int) n=>(min b.1 n,max b.2 n)) (min p n,max q n)=B at *
      refine⟨?_,?_,by omega,by omega,?_⟩
      ·rcases h1 with h1|h1
       ·by_cases e:p<=n
        ·left;omega
        ·right;rw[show B.1=n by omega];exact List.mem_cons_self
       ·right;exact List.mem_cons_of_mem _ h1
      ·rcases h2 with h2|h2
       ·by_cases e:n<=q
        ·left;omega
        ·right;rw[show B.2=n by omega];exact List.mem_cons_self
       ·right;exact List.mem_cons_of_mem _ h2
      ·intro y hy;rcases List.mem_cons.1 hy with rfl|hy
       ·omega
       ·exact h5 y hy
   obtain⟨h1,h2,h3,h4,h5⟩:=key l x x (Int.le_refl _);refine⟨?_,?_,?_⟩
   ·rcases h1 with h1|h1
    ·rw[h1];exact List.mem_cons_self
    ·exact List.mem_cons_of_mem _ h1
   ·rcases h2 with h2|h2
    ·rw[h2];exact List.mem_cons_self
    ·exact List.mem_cons_of_mem _ h2
   ·intro y hy;rcases List.mem_cons.1 hy with rfl|hy
    ·exact⟨h3,h4⟩
    ·exact h5 y hy
theorem QP(l:List Int)(h:l≠[]):qby (qM l)=.agg #[.int .i64 (yf l).1,.int .i64 (yf l).2]:=by
 obtain⟨h1,h2,h3⟩:=qcH l h;have hp:=Xk l;have hm:=ZT l
 have hne:0<(qM l).length:=by
  have:=(hm _).2 h1;exact List.length_pos_of_mem this
 obtain⟨i,hi,e1⟩:=List.mem_iff_getElem.1 ((hm _).2 h1);obtain⟨j,hj,e2⟩:=List.mem_iff_getElem.1 ((hm _).2 h2);have hpp:=List.pairwise_iff_getElem.1 hp
 have hi0:i=0:=by
  by_cases e:i=0
  ·exact e
  ·have h4:=hpp 0 i hne hi (by omega);have h5:=(h3 _ ((hm _).1 (List.getElem_mem hne))).1;omega
 have hj0:j=(qM l).length-1:=by
  by_cases e:j=(qM l).length-1
  ·exact e
  ·have h4:=hpp j ((qM l).length-1) hj (by omega) (by omega);have h5:=(h3 _ ((hm _).1 (List.getElem_mem (show(qM l).length-1<(qM l).length by omega)))).2;omega
 unfold qby;rw[List.getD_eq_getElem?_getD,qG hne,List.getD_eq_getElem?_getD,qG (show(qM l).length-1<(qM l).length by omega)];subst hi0;subst hj0;simp only[Option.getD_some,e1,e2]
def yH(D:DayM):List Int:=(qO D).map fun u=>jb D (setOf (qy u))
def yF(D:DayM)(g:Nat)(t:Int):List Int:=(qO D).map fun u=>QH D (u.getD g 0) (qD D (setOf (qy u))) g t
theorem ord_ws3{D:DayM}(hok:DayOK D)(c:CalM):(qQ D c).ws.length<=3:=by
 by_cases h:0<(qQ D c).ws.length
 ·exact hok.ws _ (YM h)
 ·omega
theorem qat{D:DayM}(hok:DayOK D)(s:PastM)(k:Nat)(hk:k<D.cs.length):-1<=(qD D (setOf s)).getD k 0/\(qD D (setOf s)).getD k 0<=2:=by
 have hk1:k<(qD D (setOf s)).length:=by rw[qK];exact hk
 have e:(qD D (setOf s))[k]? = some (qD D (setOf s))[k]:=qG hk1;have e2:D.cs[k]? = some D.cs[k]:=qG hk;have h1:=Zw D _ e e2;have h2:=JX D s _ (List.getElem_mem hk1);have h3:=ord_ws3 hok D.cs[k];rw[List.getD_eq_getElem?_getD,e];show -1<=(qD D (setOf s))[k]/\(qD D (setOf s))[k]<=2;omega
theorem qcS(D:DayM)(hg:D.gs.length<=4)(k:Nat):QV D k=qM ((qO D).map fun u=>(qD D (setOf (qy u))).getD k 0):=by
 unfold QV;rw[<-ym D hg,List.map_map];rfl
theorem qep(l:List Int)(h:l≠[])(hl:∀x∈l,-1<=x):refN (qM l)=if(l.countP fun x=>x == -1)=0 then 2 else if(l.countP fun x=>x == -1)=l.length then 1 else 0:=by
 have hp:=Xk l;have hm:=ZT l;obtain⟨x0,hx0⟩:=List.exists_mem_of_ne_nil l h;have hne:0<(qM l).length:=List.length_pos_of_mem ((hm x0).2 hx0);have hpp:=List.pairwise_iff_getElem.1 hp;have hg:(qM l).getD 0 0=(qM l)[0]:=by rw[List.getD_eq_getElem?_getD,qG hne];rfl
 unfold refN;rw[hg];by_cases h1:(-1:Int)∈l
 ·have hc:¬(l.countP fun x=>x == -1)=0:=fun e=>by
   have:=List.countP_eq_zero.1 e _ h1;simp at this
  have h0:(qM l)[0]=-1:=by
   obtain⟨i,hi,e1⟩:=List.mem_iff_getElem.1 ((hm _).2 h1);by_cases e:i=0
   ·subst e;exact e1
   ·have h4:=hpp 0 i hne hi (by omega);have h5:=hl _ ((hm _).1 (List.getElem_mem hne));omega
  rw[if_neg (by rw[h0];simp),if_neg hc];by_cases h2:(l.countP fun x=>x == -1)=l.length
  ·rw[if_pos h2];have h3:=List.countP_eq_length.1 h2
   have h4:(qM l).length=1:=by
    by_cases e:(qM l).length=1
    ·exact e
    ·have h5:=hpp 0 1 hne (by omega) (by omega);have h6:=h3 _ ((hm _).1 (List.getElem_mem (show 1<(qM l).length by omega)));have h7:(qM l)[1]'(by omega)=-1:=(by simpa using h6);omega
   rw[if_pos h4]
  ·rw[if_neg h2];refine if_neg fun e=>h2 (List.countP_eq_length.2 fun x hx=>?_);obtain⟨i,hi,e1⟩:=List.mem_iff_getElem.1 ((hm x).2 hx);have:i=0:=(by omega);subst this;rw[<-e1,h0];rfl
 ·have hc:(l.countP fun x=>x == -1)=0:=List.countP_eq_zero.2 fun x hx e=>h1 (by
   have:x=-1:=by simpa using e
   exact this▸hx)
  rw[if_pos hc];refine if_pos fun e=>h1 ?_;have h2:=(hm _).1 (List.getElem_mem hne);rw[e]at h2;exact h2
theorem qew{D:DayM}(hok:DayOK D)(hne:qO D≠[]):qby (XJ D)=.agg #[.int .i64 (yf (yH D)).1,.int .i64 (yf (yH D)).2]:=by
 have e:XJ D=qM (yH D):=by
  show qM _=_;unfold yH;rw[<-ym D hok.gs,List.map_map];rfl
 rw[e];exact QP _ (by unfold yH;simpa using hne)
theorem qes{D:DayM}(hok:DayOK D)(hne:qO D≠[])(g:Nat)(hg:g<D.gs.length)(t:Int):qby (qay D g t)=.agg #[.int .i64 (yf (yF D g t)).1,.int .i64 (yf (yF D g t)).2]:=by
 have hg4:=hok.gs
 have e:qay D g t=qM (yF D g t):=by
  show qM _=_;unfold yF;rw[<-ym D hok.gs,List.map_map];congr 1;refine List.map_congr_left fun u _=>?_;show qbO D g t (qy u)=_;unfold qbO Xj QH;rw[zy u (by omega)]
 rw[e];exact QP _ (by unfold yF;simpa using hne)
theorem ZX{D:DayM}(hok:DayOK D)(h:(qw D).length≠0):qO D≠[]:=fun e=>h (by rw[<-ym D hok.gs,e];rfl)
end Go.Proofs.Tryz
