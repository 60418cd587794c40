/-
  Lemmas about the program and the machine (D9p to D9), upon which the last text of this claim rests; no condition.
-/
import Derived.Laws.AppendOwnNone
import Derived.Test.YtjkenojgabamiaaGreatDoorB12
set_option linter.unusedSimpArgs false
set_option linter.unusedVariables false
namespace Go.Proofs.Tryz
open Go Go.Load Go.LoadR Go.RowKit
def unseen (c:CalM):CalM:={ c with se:=-2 }
def qN (D:DayM) (n:Nat) (a:Option Addr) (c:Nat):DayM:={ D with cs:=(D.cs.take n).map unseen,ca:=a,cc:=c }
section
variable (D:DayM) (n:Nat) (a:Option Addr) (c:Nat)
theorem qdP (last:Int) (x:CalM) (h:qak D last x=0):qak (qN D n a c) last (unseen x)=0:=by
 have e:qak (qN D n a c) last (unseen x)=if zC D.ts.length x.fr x.toT≠0 then zC D.ts.length x.fr x.toT else if (btw x.co 0 99 && btw x.cl 0 99)=false then 1 else if x.cl≤x.co∨x.co < last then 7 else if (-2:Int) < -2 then 1 else if ((qz D x).ws.length:Int)≤-2 then 6 else 0:=rfl
 rw [e]
 unfold qak at h
 by_cases h1:zC D.ts.length x.fr x.toT=0
 ·rw [if_neg (by simpa using h1)] at h ⊢
  by_cases h2:(btw x.co 0 99 && btw x.cl 0 99)=false
  ·rw [if_pos h2] at h;cases h
  ·rw [if_neg h2] at h ⊢
   by_cases h3:x.cl≤x.co∨x.co < last
   ·rw [if_pos h3] at h;cases h
   ·rw [if_neg h3,if_neg (by omega),if_neg (by omega)]
 ·rw [if_pos h1] at h;exact absurd h h1
theorem YY:∀(m:Nat) (l:List CalM) (last:Int),yX D last l=0→yX (qN D n a c) last ((l.take m).map unseen)=0
 | 0,l,last,_=>by simp [yX]
 | m+1,[],last,_=>rfl
 | m+1,x :: l,last,h=>by
   unfold yX at h
   by_cases hx:qak D last x=0
   ·rw [if_neg (by simpa using hx)] at h
    rw [List.take_succ_cons,List.map_cons]
    show (if qak (qN D n a c) last (unseen x)≠0 then _ else yX (qN D n a c) (unseen x).co ((l.take m).map unseen))=0
    rw [if_neg (by rw [qdP D n a c last x hx];simp)]
    exact YY m l x.co h
   ·rw [if_pos hx] at h;exact absurd h hx
theorem Yn (h:checkN D=0):checkN (qN D n a c)=0:=by
 have z:∀{a b:Int},(if a≠0 then a else b)=0→a=0∧b=0:=fun {a b} h=>by
  by_cases ha:a=0
  ·rw [if_neg (by simpa using ha)] at h;exact ⟨ha,h⟩
  ·rw [if_pos ha] at h;exact absurd h ha
 unfold checkN at h
 obtain ⟨h0,h⟩:=z h
 obtain ⟨h1,h⟩:=z h
 obtain ⟨h2,h⟩:=z h
 obtain ⟨h3,h4⟩:=z h
 have e0:jH (qN D n a c)=0:=h0
 have e1:zV (qN D n a c)=0:=h1
 have e3:ji (qN D n a c)=0:=h3
 have hw:∀(tw t:Int) (ps l:List Int),Qx (qN D n a c) tw t ps l=Qx D tw t ps l:=fun tw t ps l=>by
  induction l generalizing t ps with
  | nil=>rfl
  | cons x l ih =>
    simp only [Qx,ih]
    rfl
 have hwa:∀(o:OrdM) (l:List Int),Jb (qN D n a c) o l=Jb D o l:=fun o l=>by unfold Jb;rw [hw]
 have hwt:Zt (qN D n a c)=Zt D:=by funext o i x;unfold Zt;rw [hwa]
 have hoa:∀met o,qaL (qN D n a c) met o=qaL D met o:=fun met o=>by unfold qaL;rw [hwt];rfl
 have hog:∀(l:List OrdM) (met:List (Int×Int)),zF (qN D n a c) met l=zF D met l:=fun l=>by
  induction l with
  | nil=>intro met;rfl
  | cons x l ih=>intro met;unfold zF;rw [hoa,ih]
 have e2:yz (qN D n a c)=0:=by
  unfold yz at h2 ⊢
  show (if 6 < D.os.length then (2:Int) else zF (qN D n a c) [] D.os)=0
  rw [hog];exact h2
 have e4:xD (qN D n a c)=0:=by
  unfold xD at h4 ⊢
  by_cases hl:8 < D.cs.length
  ·rw [if_pos hl] at h4;cases h4
  ·rw [if_neg hl] at h4
   have:¬ 8 < (qN D n a c).cs.length:=by
    show ¬ 8 < ((D.cs.take n).map unseen).length
    rw [List.length_map,List.length_take]
    omega
   rw [if_neg this]
   exact YY D n a c n D.cs 0 h4
 unfold checkN
 rw [e0,e1,e2,e3,e4]
 simp
theorem Xn (t g:Int):∀(took:List WayM) (cs:List CalM) (m:Nat),took.length≤m→zZ t g ((cs.take m).map unseen) took=zZ t g cs took
 | [],cs,m,_=>by rw [xS,xS]
 | x :: took,[],m,_=>by simp
 | x :: took,y :: cs,0,h=>by simp at h
 | x :: took,y :: cs,m+1,h=>by
   rw [List.take_succ_cons,List.map_cons]
   show (if Js t g (unseen y) x=true then (1:Int) else 0)+zZ t g ((cs.take m).map unseen) took=(if Js t g y x=true then 1 else 0)+zZ t g cs took
   rw [Xn t g took cs m (by simpa using h)]
   rfl
theorem qcv (p:PastM) (took:List WayM) (g:Nat) (t:Int) (h:took.length≤n):Zi (qN D n a c) p took g t=Zi D p took g t:=by
 unfold Zi
 show max 0 (p.get g - zZ t g ((D.cs.take n).map unseen) took - Qg t g D.hs)=_
 rw [Xn t g took D.cs n h]
theorem qcw (p:PastM) (took:List WayM) (t:Int) (x:WayM) (h:took.length≤n):ZI (qN D n a c) p took t x=ZI D p took t x:=by
 unfold ZI
 congr 1
 funext g
 rw [qcv D n a c p took g.toNat t h]
theorem Xc (s:SetM) (took:List WayM) (x:CalM) (h:took.length≤n):∀(m k:Nat),yh (qN D n a c) s took (unseen x) m k=yh D s took x m k
 | 0,k=>rfl
 | m+1,k=>by
   unfold yh
   have hw:wayK (qN D n a c) s (unseen x) k=wayK D s x k:=rfl
   rw [hw,qcw D n a c s.p took (unseen x).co _ h,Xc s took x h m (k+1)]
   rfl
theorem QM (s:SetM):∀(m i:Nat) (took:List WayM) (cs:List CalM),took.length=i→i+m≤n→zo (qN D n a c) s i took ((cs.take m).map unseen)=(zo D s i took cs).take m
 | 0,i,took,cs,_,_=>by simp [zo]
 | m+1,i,took,[],_,_=>by simp [zo]
 | m+1,i,took,x :: cs,h,hn=>by
   rw [List.take_succ_cons,List.map_cons]
   have hs:jG (qN D n a c) s i took (unseen x)=jG D s i took x:=by
    unfold jG
    rw [show (qz (qN D n a c) (unseen x)).ws.length=(qz D x).ws.length from rfl,Xc D n a c s took x (by omega)]
   unfold zo
   rw [hs,List.take_succ_cons,QM s m (i+1) (took ++ [(jG D s i took x).2]) cs (by simp [h]) (by omega)]
theorem Xd (s:SetM):qA (qN D n a c) s=(qA D s).take n:=QM D n a c s n 0 [] D.cs rfl (by omega)
end
def qac (l:List CalM) (k:Nat):List CalM:=(l.take k).map unseen ++ l.drop k
theorem unsK_len (l:List CalM) (k:Nat):(qac l k).length=l.length:=by
 unfold qac
 rw [List.length_append,List.length_map,List.length_take,List.length_drop]
 omega
theorem qbU {l:List CalM} {k:Nat} {x:CalM} (h:l[k]? = some x):(qac l k)[k]? = some x:=by
 have hk:=(List.getElem?_eq_some_iff.1 h).1
 unfold qac
 rw [List.getElem?_append_right (by rw [List.length_map,List.length_take];omega),List.length_map,List.length_take,Nat.min_eq_left (by omega),Nat.sub_self,List.getElem?_drop,Nat.add_zero,h]
theorem unsK_set {l:List CalM} {k:Nat} {x:CalM} (h:l[k]? = some x):(qac l k).set k (unseen x)=qac l (k+1):=by
 obtain ⟨hk,rfl⟩:=List.getElem?_eq_some_iff.1 h
 unfold qac
 have hl:((l.take k).map unseen).length=k:=by rw [List.length_map,List.length_take];omega
 rw [List.set_append_right _ _ (by omega),hl,Nat.sub_self,List.drop_eq_getElem_cons hk,List.set_cons_zero,List.take_succ_eq_append_getElem hk,List.map_append,List.append_assoc]
 rfl
theorem qbT (l:List CalM):qac l l.length=l.map unseen:=by
 unfold qac
 rw [List.take_length,List.drop_length,List.append_nil]
set_option maxHeartbeats 8000000 in
set_option maxRecDepth 100000 in
theorem qcF (D:DayM) (q:List Int) (qa:Option Addr) (qc:Nat) (many:Int) (hm:0≤many∧many < 256) (ad:Addr) (hCA:D.ca=some ad) (hf:fitB D=true) (w:World) (hG:Globs w) (h:DayAt w D) (hcap:DayCap D) (hnil:D.ca=none→D.cc=0) (hq:qg w 1 encU qa q) (hqc:q.length≤qc) (hqb:∀x∈q,0≤x∧x≤65535) :
 Calls qj 5 #[dv D,.slice qa q.length qc,.int .u8 many] w fun e w'=>e=.returned (.bool true):=by
 have hfit:=fun W (hB:Below w.heap.size w W)=>Xu D W (h.keep hB) hcap
 have hro:=fun W (hB:Below w.heap.size w W)=>jT W (hG.keep hB)
 have hdv:dv D=.agg #[.slice D.ta D.ts.length D.tc,.slice D.ga D.gs.length D.gc,.slice D.oa D.os.length D.oc,.slice D.ha D.hs.length D.hc,.slice D.ca D.cs.length D.cc]:=rfl
 have HRO:=Lib.hid hro
 clear hro
 obtain ⟨W,hW⟩:∃W,w.alloc (Obj.cells #[.slice D.ta D.ts.length D.tc,.slice D.ga D.gs.length D.gc,.slice D.oa D.os.length D.oc,.slice D.ha D.hs.length D.hc,.slice D.ca D.cs.length D.cc] 28)=W:=⟨_,rfl⟩
 have h5:B5 W w.heap.size (.slice D.ta D.ts.length D.tc) (.slice D.ga D.gs.length D.gc) (.slice D.oa D.os.length D.oc) (.slice D.ha D.hs.length D.hc) (.slice D.ca D.cs.length D.cc):=by subst hW;exact B5.new ..
 have hBw:Below w.heap.size w W:=by subst hW;go_grown
 obtain ⟨k0,k1,k2,k3,k4⟩:=h5
 have HCA:=Lib.hid hCA
 clear hCA
 obtain ⟨hs,hz⟩:=qaB hf hcap
 rw [hf] at hfit
 obtain ⟨i0,hi,hz0,hz1,hz2⟩:=info_parts xJ
 obtain ⟨j0,hj,hy0,hy1,hy2⟩:=info_parts XN
 have hU:qj.underlying 26=some (.slice 52):=(qx _).trans Tryz.underlying26
 have hgl:=(qM D hz).gs
 have hcl:=(qM D hz).cs
 have hch:=fun W (hB:Below w.heap.size w W) k=>QU q qa qc k hqc hqb W (hq.keep hB)
 have HD:=Lib.hid (And.intro h (And.intro hs (And.intro hz (And.intro hG hnil))))
 have hqn:∀k,0≤q.getD k 0:=fun k=>by
  rw [List.getD_eq_getElem?_getD]
  by_cases hk:k < q.length
  ·rw [List.getElem?_eq_getElem hk]
   exact (hqb _ (List.getElem_mem hk)).1
  ·rw [List.getElem?_eq_none (by omega)]
   exact Int.le_refl 0
 have HQN:=Lib.hid hqn
 have HCH:=Lib.hid hch
 rw [hdv] at hfit ⊢
 have HF:=Lib.hid hfit
 clear hdv hfit hcap hnil hq hqb hG hf h hs hz hqn hch
 go_enter (sf 5 f5),ntmps5
 go_upto_region 1 with fail
 try rw [hW]
 clear hW
 go_upto_region 5 with (go_at_call 18;(with_reducible refine (HF.out _ hBw).mono ?_);rintro e W1 ⟨rfl,hB1⟩;replace k0:=qb _ hB1 k0;replace k1:=qb _ hB1 k1;replace k2:=qb _ hB1 k2;replace k3:=qb _ hB1 k3;replace k4:=qb _ hB1 k4;replace hBw:=bcl hBw hB1;clear hB1)
 clear HF
 have hzW1:w.heap.size < W1.heap.size:=lt_of_cell k0
 go_loopw [8,7] (fun i u wr=>∃(k:Nat) (v:Value),i=.int .i64 k∧v=u∧k≤D.gs.length∧Hid (Below W1.heap.size W1 wr)∧Hid (wr.ownsRow W1.heap.size 3 1 v (zy q 7 k).length ((zy q 7 k).map (.int .i64)))) (fun i _ _=>D.gs.length - (intOf i).toNat)
 case atStart=>exact ⟨0,_,rfl,rfl,by omega,Lib.hid (Below.refl _ _),Lib.hid (World.ownsRow_nil _ _ _ _)⟩
 case round =>
  obtain ⟨k,v,rfl,rfl,hk,HB,HO⟩:=hrel
  replace k0:=qb _ HB.out k0
  replace k1:=qb _ HB.out k1
  replace k2:=qb _ HB.out k2
  replace k3:=qb _ HB.out k3
  replace k4:=qb _ HB.out k4
  have hsz:=HB.out.size
  by_cases hlt:k < D.gs.length
  ·have hki:(k:Int) < (D.gs.length:Int):=by omega
   have hk0:(0:Int)≤(k:Int):=Int.natCast_nonneg k
   have hcc:=HCH.out _ (bcl hBw HB.out) k
   have hps:=Qt q 7 k
   have hpl:=yT q 7 k
   have hx0:=HQN.out k
   generalize q.getD k 0=x at *
   have htm:Int.tmod x 7=x % 7:=jY hx0
   have hxr:0≤x % 7∧x % 7 < 7:=⟨by omega,by omega⟩
   obtain ⟨y,hy⟩:∃y,x % 7=y:=⟨_,rfl⟩
   rw [hy] at htm hps hxr
   have HPS:=Lib.hid hps
   have HPL:=Lib.hid hpl
   obtain ⟨L,hL⟩:∃L,zy q 7 k=L:=⟨_,rfl⟩
   rw [hL] at HPS HO HPL
   have hLl:L.length≤20:=by have:=HPL.out;omega
   clear hps hpl hy hL hx0
   go_wp2_with (first | (go_at_call 19;(with_reducible refine hcc.mono ?_);rintro e w2 ⟨rfl,rfl⟩) | (at_builtin;refine wpList_append_own_at _ rfl (.tmp 27) (.tmp 32) 31 rfl W1.heap.size 3 i0 (.int .i64 0) 1 8 ((qx _).trans Tryz.underlying31) hi hz0 hz1 hz2 rfl (by decide) _ _ _ rfl (HO.out.alloc _) ⟨wr.heap.size,0,none⟩ 1 1 [.int .i64 y] rfl rfl (cell_one_new _ _ _) (xV y) (by unfold maxLen;omega) (by omega) (by simp;omega) ?_;intro v1 w3 n1 y1 nil1 at1))
   have y2:(wr.alloc (.cells #[.int .i64 y] 3)).grownBy w3 v.ownBlock:=y1
   have hB3:Below W1.heap.size W1 w3:=HB.out.trans (((Mod.below ((Below.refl _ wr).alloc (Nat.le_refl _) _)).trans (Mod.grown (S:=fun b=>v.ownBlock=some b) y2 (fun b e=>e))).keep hsz (fun b hb=>(HO.out.lt b hb).1))
   go_roundw
   case rel =>
    refine ⟨k+1,v1,rfl,rfl,by omega,Lib.hid hB3,Lib.hid ?_⟩
    rw [HPS.out]
    simp only [List.length_append,List.length_cons,List.length_nil,Nat.zero_add,List.map_append,List.map_cons,List.map_nil]
    exact n1
   case measure=>simp [intOf];omega
  ·obtain rfl:k=D.gs.length:=by omega
   obtain ⟨la,lc,rfl,hlc,hlr⟩:=yH HO.out
   have hpl:=yT q 7 D.gs.length
   have hpb:∀x∈zy q 7 D.gs.length,0≤x∧x≤9:=fun x hx=>by
    unfold zy at hx
    obtain ⟨i,_,rfl⟩:=List.mem_map.1 hx
    omega
   have HP:=Lib.hid (And.intro hpl (And.intro hlc (And.intro hlr hpb)))
   have hll:(zy q 7 D.gs.length).length≤20:=by omega
   obtain ⟨L,hL⟩:∃L,zy q 7 D.gs.length=L:=⟨_,rfl⟩
   rw [hL] at HP hll ⊢
   have hBy:=bcl hBw HB.out
   have hzwr:W1.heap.size≤wr.heap.size:=hsz
   clear hL hpl hlc hlr hpb HO HB hk hlt HCH HQN hBw hsz
   obtain ⟨n,hn⟩:∃n:Nat,(n:Int)=many % ((D.cs.length:Int)+1):=⟨(many % ((D.cs.length:Int)+1)).toNat,by rw [Int.toNat_of_nonneg (Int.emod_nonneg _ (by omega))]⟩
   have hnl:n≤D.cs.length:=by have:=Int.emod_lt_of_pos many (show (0:Int) < (D.cs.length:Int)+1 by omega);omega
   have hwm:IntKind.i64.wrap many=many:=by rw [IntKind.wrap_i64];omega
   have htm:Int.tmod many ((D.cs.length:Int)+1)=(n:Int):=by rw [jY hm.1,hn]
   have hne:¬ (D.cs.length:Int)+1=0:=by omega
   have hwl:wrap64 ((D.cs.length:Int)+1)=(D.cs.length:Int)+1:=wrap_small (by omega) (by omega)
   clear hn
   go_upto_region 10 with fail
   clear hwm htm hne hwl
   obtain ⟨U,hUU⟩:∃U,wr.alloc (Obj.cells #[.slice D.ta D.ts.length D.tc,.slice D.ga D.gs.length D.gc,.slice D.oa D.os.length D.oc,.slice D.ha D.hs.length D.hc,.slice D.ca D.cs.length D.cc] 28)=U:=⟨_,rfl⟩
   have hBU:Below wr.heap.size wr U:=by subst hUU;go_grown
   have hzU:U.heap.size=wr.heap.size+1:=by subst hUU;simp
   have u0:U.cell? ⟨wr.heap.size,0,none⟩=some (.slice D.ta D.ts.length D.tc):=by subst hUU;go_cell
   have u1:U.cell? ⟨wr.heap.size,1,none⟩=some (.slice D.ga D.gs.length D.gc):=by subst hUU;go_cell
   have u2:U.cell? ⟨wr.heap.size,2,none⟩=some (.slice D.oa D.os.length D.oc):=by subst hUU;go_cell
   have u3:U.cell? ⟨wr.heap.size,3,none⟩=some (.slice D.ha D.hs.length D.hc):=by subst hUU;go_cell
   have u4:U.cell? ⟨wr.heap.size,4,none⟩=some (.slice D.ca D.cs.length D.cc):=by subst hUU;go_cell
   have f4:U.frozen? ⟨wr.heap.size,4,none⟩=false:=by subst hUU;go_cell
   rw [hUU]
   clear hUU
   replace k0:=qb _ hBU k0
   replace k1:=qb _ hBU k1
   replace k2:=qb _ hBU k2
   replace k3:=qb _ hBU k3
   replace k4:=qb _ hBU k4
   have hByU:=bcl hBy hBU
   have HZU:=Lib.hid hzU
   have hwU:wr.heap.size < U.heap.size:=by omega
   have hwW:w.heap.size < wr.heap.size:=by omega
   have hwU0:w.heap.size < U.heap.size:=by omega
   clear hzU
   rw [HCA.out] at k4 u4 ⊢
   have HFA:=Lib.hid (jA (k:=5) (fun _=>rfl) (by omega) (show qg U 5 je (some ad) (D.cs.take n) from by have h9:=((HD.out.1.keep hByU).cs).take n;rwa [HCA.out] at h9))
   have HFN:=Lib.hid (show ((D.cs.take n).flatMap je).length=n * 5 from by rw [yI (k:=5) (enc:=je) (fun _=>rfl),List.length_take,Nat.min_eq_left hnl])
   have HFO:=Lib.hid (qeK (D.cs.take n))
   have hncc:n≤D.cc:=by have:=HD.out.2.1.cs.2;omega
   have hni:(n:Int)≤(D.cs.length:Int):=by omega
   have hni2:(n:Int)≤(D.cc:Int):=by omega
   have hcc2:(D.cs.length:Int)≤(D.cc:Int):=by have:=HD.out.2.1.cs.2;omega
   have hn0:(0:Int)≤(n:Int):=Int.natCast_nonneg n
   go_upto_region 11 with (at_builtin;refine wpList_append_own _ rfl (.tmp 42) (.tmp 46) 26 rfl U.heap.size 52 j0 (.agg #[.int .i64 0,.int .i64 0,.int .i64 0,.int .i64 0,.int .i64 0]) 5 40 hU hj hy0 hy1 hy2 rfl (by decide) _ 0 [] rfl (World.ownsRow_made U #[] 0 (Nat.le_refl _) (by unfold maxLen;omega) rfl) ad n D.cc ((D.cs.take n).flatMap je) rfl HFN.out (fun j u hu=>qQ (HFA.out j u hu)) HFO.out (by unfold maxLen;omega) (by omega) (by simp) ?_;intro v1 w3 hown1 hgrow1 hnil1;rw [List.nil_append] at hown1;obtain ⟨g,cap,e1,e4,e5⟩:=zn (enc:=je) (k:=5) (fun _=>rfl) hown1 (fun e=>by have:=(hnil1.1 e).1;cases this);rw [Nat.zero_add] at e1 e4;subst e1;have hB3:Below U.heap.size U w3:=((Below.refl _ U).alloc (Nat.le_refl _) _).grown hgrow1 (by simp) (fun k hk=>by cases hk;exact Nat.le_refl _);replace k0:=qb _ hB3 k0;replace k1:=qb _ hB3 k1;replace k2:=qb _ hB3 k2;replace k3:=qb _ hB3 k3;replace k4:=qb _ hB3 k4;replace f4:=qd _ hB3 u4 f4;replace u0:=qb _ hB3 u0;replace u1:=qb _ hB3 u1;replace u2:=qb _ hB3 u2;replace u3:=qb _ hB3 u3;replace u4:=qb _ hB3 u4;have HOW:=Lib.hid (And.intro e4 (And.intro e5 hB3));clear hown1 hgrow1 hnil1 e4 e5 hB3)
   obtain ⟨Z,hZ⟩:∃Z,w3.setCell ⟨wr.heap.size,4,none⟩ (.slice (some ⟨g,0,none⟩) n cap)=Z:=⟨_,rfl⟩
   have hmZ:Mod (fun j=>j=wr.heap.size) w3 Z:=by subst hZ;exact (Mod.refl (fun j=>j=wr.heap.size) w3).put ⟨wr.heap.size,4,none⟩ _ rfl
   have z4:Z.cell? ⟨wr.heap.size,4,none⟩=some (.slice (some ⟨g,0,none⟩) n cap):=by subst hZ;exact qp (qB u4)
   have z0:Z.cell? ⟨wr.heap.size,0,none⟩=some (.slice D.ta D.ts.length D.tc):=by subst hZ;exact qh u0 (.inr (by simp))
   have z1:Z.cell? ⟨wr.heap.size,1,none⟩=some (.slice D.ga D.gs.length D.gc):=by subst hZ;exact qh u1 (.inr (by simp))
   have z2:Z.cell? ⟨wr.heap.size,2,none⟩=some (.slice D.oa D.os.length D.oc):=by subst hZ;exact qh u2 (.inr (by simp))
   have z3:Z.cell? ⟨wr.heap.size,3,none⟩=some (.slice D.ha D.hs.length D.hc):=by subst hZ;exact qh u3 (.inr (by simp))
   replace k0:=hmZ.cell k0 (by simp only;omega)
   replace k1:=hmZ.cell k1 (by simp only;omega)
   replace k2:=hmZ.cell k2 (by simp only;omega)
   replace k3:=hmZ.cell k3 (by simp only;omega)
   replace k4:=hmZ.cell k4 (by simp only;omega)
   have hncap:n≤cap:=HOW.out.1
   have hGU:U.heap.size≤g:=(HOW.out.2.1).1 _ rfl
   have hOZ:zW U.heap.size Z 5 je (some ⟨g,0,none⟩) (D.cs.take n):=(HOW.out.2.1).mod hmZ (fun p hp e=>by cases hp;simp only at e;omega)
   have hBwP:=bcl hByU HOW.out.2.2
   have hBwZ:Below w.heap.size w Z:=hBwP.trans (hmZ.keep hBwP.size (fun j e=>by omega))
   have hBtZ:Below U.heap.size U Z→True:=fun _=>trivial
   clear hBtZ
   have hBPZ:qg Z 1 encI la L:=fun hl=>by
    obtain ⟨b9,o9,e9,h9⟩:=(HP.out.2.2.1.keep hBU) hl
    refine ⟨b9,o9,e9,fun i x hx j v hv=>?_⟩
    have h8:=h9 i x hx j v hv
    have h7:=(HP.out.2.2.1 hl)
    obtain ⟨b7,o7,e7,h7⟩:=h7
    rw [e9] at e7
    cases e7
    have hb7:=lt_of_cell (h7 i x hx j v hv)
    exact hmZ.cell (qb _ HOW.out.2.2 h8) (by simp only at hb7 ⊢;omega)
   have HTR:=Lib.hid hBPZ
   have HOZ:=Lib.hid (show zW U.heap.size Z 5 je (some ⟨g,0,none⟩) (qac (D.cs.take n) 0) by simpa [qac] using hOZ)
   have HBZ:=Lib.hid hBwZ
   try rw [hZ]
   clear hZ hmZ u0 u1 u2 u3 u4 f4 hOZ hBwP hBPZ
   obtain ⟨wt,hwt⟩:∃X,X=wr:=⟨_,rfl⟩
   subst hwt
   go_wp2
   go_loopw [11] (fun i wx=>∃k:Nat,i=.int .i64 k∧k≤n∧Hid (Mod (fun j=>j=g) Z wx)∧Hid (zW U.heap.size wx 5 je (some ⟨g,0,none⟩) (qac (D.cs.take n) k))) (fun i _=>n - (intOf i).toNat)
   case atStart=>exact ⟨0,rfl,Nat.zero_le _,Lib.hid (Mod.refl _ _),HOZ⟩
   case round =>
    obtain ⟨k,rfl,hk,HM,HO⟩:=hrel
    replace z4:=HM.out.cell z4 (by simp only;omega)
    by_cases hlt:k < n
    ·obtain ⟨x,hx⟩:∃x,(D.cs.take n)[k]? = some x:=⟨_,List.getElem?_eq_getElem (by rw [List.length_take];omega)⟩
     obtain ⟨g',eg,hc⟩:=HO.out.2 (by rw [unsK_len,List.length_take];omega)
     cases eg
     obtain ⟨c4,f4⟩:=hc k x (qbU hx) 4 _ rfl
     have hki:(k:Int) < (n:Int):=by omega
     have hkc:(k:Int)≤(cap:Int):=by omega
     have hk0:(0:Int)≤(k:Int):=Int.natCast_nonneg k
     have HX:=Lib.hid hx
     clear hc hx
     go_wp2
     go_roundw
     case rel =>
      refine ⟨k+1,rfl,by omega,Lib.hid (HM.out.put ⟨g,k * 5+4,none⟩ _ rfl),Lib.hid ?_⟩
      rw [← unsK_set HX.out]
      exact zW.setj (k:=5) (enc:=je) (j:=4) (fun _=>rfl) HO.out (qbU HX.out) (show je (unseen x)=(je x).set 4 (.int .i64 (-2)) from rfl) (by decide)
     case measure=>simp [intOf];omega
    ·obtain rfl:k=n:=by omega
     have hO:=HO.out
     rw [show qac (D.cs.take k) k=(D.cs.take k).map unseen from by have h9:=qbT (D.cs.take k);rwa [List.length_take,Nat.min_eq_left hnl] at h9] at hO
     replace z0:=HM.out.cell z0 (by simp only;omega)
     replace z1:=HM.out.cell z1 (by simp only;omega)
     replace z2:=HM.out.cell z2 (by simp only;omega)
     replace z3:=HM.out.cell z3 (by simp only;omega)
     replace k0:=HM.out.cell k0 (by simp only;omega)
     replace k1:=HM.out.cell k1 (by simp only;omega)
     replace k2:=HM.out.cell k2 (by simp only;omega)
     replace k3:=HM.out.cell k3 (by simp only;omega)
     replace k4:=HM.out.cell k4 (by simp only;omega)
     have hBx:Below w.heap.size w wr:=HBZ.out.trans (HM.out.keep HBZ.out.size (fun j e=>by omega))
     have hln:((D.cs.take k).map unseen).length=k:=by rw [List.length_map,List.length_take];omega
     have hd:=HD.out.1.keep hBx
     have hdO:DayAt wr (qN D k (some ⟨g,0,none⟩) cap):=⟨hd.ts,hd.gs,hd.os,hd.ws,hd.ls,hd.hs,hO.rows⟩
     have hsO:DaySm (qN D k (some ⟨g,0,none⟩) cap):=by
      have h:=HD.out.2.1
      refine ⟨h.ts,h.nm,h.gs,h.os,h.ws,h.ls,h.hs,?_⟩
      show ((D.cs.take k).map unseen).length≤20∧((D.cs.take k).map unseen).length≤cap
      rw [hln]
      omega
     have hTr:qg wr 1 encI la L:=fun hl=>by
      obtain ⟨b9,o9,e9,h9⟩:=HTR.out hl
      refine ⟨b9,o9,e9,fun i x hx j v hv=>HM.out.cell (h9 i x hx j v hv) ?_⟩
      obtain ⟨b7,o7,e7,h7⟩:=HP.out.2.2.1 hl
      rw [e9] at e7
      cases e7
      have hb7:=lt_of_cell (h7 i x hx j v hv)
      simp only at hb7 ⊢
      omega
     have hp1:=jF D L la lc wr hd HD.out.2.1 (HD.out.2.2.2.1.keep hBx) (QK HD.out.2.2.1 HP.out.1 HP.out.2.2.2) hll HP.out.2.1 hTr
     have hp2:=fun X (hX:Below wr.heap.size wr X)=>jF (qN D k (some ⟨g,0,none⟩) cap) L la lc X (hdO.keep hX) hsO (HD.out.2.2.2.1.keep (bcl hBx hX)) (QK (Yn D k _ _ HD.out.2.2.1) HP.out.1 HP.out.2.2.2) hll HP.out.2.1 (hTr.keep hX)
     rw [show dv D=.agg #[.slice D.ta D.ts.length D.tc,.slice D.ga D.gs.length D.gc,.slice D.oa D.os.length D.oc,.slice D.ha D.hs.length D.hc,.slice (some ad) D.cs.length D.cc] by unfold dv;rw [HCA.out]] at hp1
     rw [show dv (qN D k (some ⟨g,0,none⟩) cap)=.agg #[.slice D.ta D.ts.length D.tc,.slice D.ga D.gs.length D.gc,.slice D.oa D.os.length D.oc,.slice D.ha D.hs.length D.hc,.slice (some ⟨g,0,none⟩) k cap] from (by unfold dv;show Value.agg #[_,_,_,_,.slice _ ((D.cs.take k).map unseen).length _]=_;rw [hln];rfl),show (qN D k (some ⟨g,0,none⟩) cap).cs.length=k from hln] at hp2
     rw [Xd] at hp2
     have hPl:=qI D (setOf (qD L))
     generalize qA D (setOf (qD L))=P at *
     have HP1:=Lib.hid hp1
     have HP2:=Lib.hid hp2
     have HBX:=Lib.hid hBx
     have HPl:=Lib.hid hPl
     have hlL:L.length=L.length:=rfl
     clear hO hd hdO hsO hTr hp1 hp2 hln hBx HBZ HTR HOZ hPl hlL
     go_upto_region 16 with (go_at_call 20;(with_reducible refine HP1.out.mono ?_);intro e w5 hQ;obtain ⟨hB5,pa,pc,he,hpc,hpr⟩:=hQ;subst he;replace z0:=qb _ hB5 z0;replace z1:=qb _ hB5 z1;replace z2:=qb _ hB5 z2;replace z3:=qb _ hB5 z3;replace z4:=qb _ hB5 z4)
     have HPR:=Lib.hid (And.intro hpc (And.intro hpr hB5))
     clear hpr
     go_upto_region 17 with (go_at_call 20;(with_reducible refine (HP2.out _ hB5).mono ?_);intro e w6 hQ;obtain ⟨hB6,ya,yc,he,hyc,hyr⟩:=hQ;subst he)
     have hpc2:(D.cs.length:Int)≤(pc:Int):=by omega
     have hkl:(k:Int)≤(D.cs.length:Int):=by omega
     have hkl2:(k:Int)≤(pc:Int):=by omega
     have hkk:(0:Int)≤(k:Int):=by omega
     have htl:(P.take k).length=k:=by rw [List.length_take,HPl.out];omega
     have hsn:=xq pa ya pc yc (P.take k) (P.take k) w6 ((HPR.out.2.1.keep hB6).take k) hyr (by rw [htl];omega) (by rw [htl];omega) (by rw [htl];omega) (by rw [htl];omega)
     rw [htl] at hsn
     simp only [decide_true] at hsn
     have HB7:=Lib.hid (bcl (Below.call HBX.out HPR.out.2.2 (Nat.le_refl _)) hB6)
     clear hyr htl hB5 hB6
     cases pa with
     | none =>
       go_wp2_with (first | (go_at_call 11;(with_reducible refine hsn.mono ?_);rintro e w7 ⟨rfl,hB8⟩) | (go_at_call 8;(with_reducible refine (HRO.out _ (bcl HB7.out hB8)).mono ?_);rintro e w8 ⟨rfl,hB9⟩))
       go_ret
       rfl
     | some pad =>
       go_wp2_with (first | (go_at_call 11;(with_reducible refine hsn.mono ?_);rintro e w7 ⟨rfl,hB8⟩) | (go_at_call 8;(with_reducible refine (HRO.out _ (bcl HB7.out hB8)).mono ?_);rintro e w8 ⟨rfl,hB9⟩))
       go_ret
       rfl
end Go.Proofs.Tryz
