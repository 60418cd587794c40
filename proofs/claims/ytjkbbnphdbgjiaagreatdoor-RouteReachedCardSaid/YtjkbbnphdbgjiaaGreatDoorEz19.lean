/-
  Lemmas about the program and the machine (Q42 to Q42), upon which the last text of this claim rests; no condition.
-/
import Derived.Test.YtjkbbnphdbgjiaaGreatDoorEz11
set_option linter.unusedSimpArgs false
set_option linter.unusedVariables false
set_option maxRecDepth 100000
set_option maxHeartbeats 4000000
section
namespace Go.Proofs.Tryz
open Go Go.Load Go.LoadR Go.RowKit
attribute [local go_sem] Oper.semAt_some
def rowOf(n:Nat)(q:PastM):List Int:=(List.range n).map q.get
def qda(D:DayM)(q:PastM):Bool:=yN D (qx D) q==0
def Zz(D:DayM)(k:Nat):Option PastM:=(xS D.gs.length 0 (k:Int) yA).find? (qda D)
def extN(D:DayM):Option PastM:=(Zz D 0).or ((Zz D 1).or ((Zz D 2).or (Zz D 3)))
def ExtV(D:DayM)(w':World)(e:Ending):Option PastM->Prop
 | none=>e=.returned (.tuple #[.slice none 0 0,.bool false,.int .i64 0])
 | some q=>∃a c,e=.returned (.tuple #[.slice a D.gs.length c,.bool true,.int .i64 0])/\D.gs.length<=c/\qi w' 1 encI a (rowOf D.gs.length q)
def ExtP(D:DayM)(w:World)(e:Ending)(w':World):Prop :=
 Below w.heap.size w w'/\((zt D 0≠0/\e=.returned (.tuple #[.slice none 0 0,.bool false,.int .i64 (zt D 0)])) \/
  (zt D 0=0/\ExtV D w' e (extN D)))
theorem ext_some{D:DayM}{k:Nat}{q:PastM}(hk:k<4)(h0:∀j,j<k->Zz D j=none)(h:Zz D k=some q):extN D=some q:=by
 unfold extN
 match k,hk with
 | 0,_=>rw[h];rfl
 | 1,_=>rw[h0 0 (by omega),h];rfl
 | 2,_=>rw[h0 0 (by omega),h0 1 (by omega),h];rfl
 | 3,_=>rw[h0 0 (by omega),h0 1 (by omega),h0 2 (by omega),h];rfl
theorem ext_none{D:DayM}(h0:∀j,j<4->Zz D j=none):extN D=none:=by
 unfold extN;rw[h0 0 (by omega),h0 1 (by omega),h0 2 (by omega),h0 3 (by omega)];rfl
theorem XZ(w:World):(isAgg 31).run qp w=.ok false w:=by kernel_rfl
theorem XY(w:World):(isAgg 4).run qp w=.ok false w:=by kernel_rfl
theorem YA(w:World):(isAgg 32).run qp w=.ok false w:=by kernel_rfl
theorem QX{P:Program}{ty:TypeId}{w:World}{b:Nat}{v:Value}(hA:∀w,(isAgg ty).run P w=.ok false w)(k0:w.cell? ⟨b,0,none⟩=some v):(loadVar ty ⟨b,0,none⟩).run P w=.ok v w:=by
 unfold loadVar;simp only[Sem.run_bind,hA,Result.andThen_ok,Bool.false_eq_true,if_false,run_load,k0,Sem.run_pure]
theorem QN{P:Program}{fn:Func}{ts:Array Value}{p q r:Tmp}{t1 t2 t3:TypeId}{w:World}{a b c:Addr}{v u x:Value}(h:fn.results=#[.cell p t1,.cell q t2,.cell r t3])(hp:ts.getD p undef=.pointer (some a))(hq:ts.getD q undef=.pointer (some b))(hr:ts.getD r undef=.pointer (some c))(h1:(loadVar t1 a).run P w=.ok v w)(h2:(loadVar t2 b).run P w=.ok u w)(h3:(loadVar t3 c).run P w=.ok x w):(results fn ts).run P w=.ok (.tuple #[v,u,x]) w:=by
 unfold results;rw[h];simp only[List.mapM_toArray,List.mapM_cons,List.mapM_nil,hp,hq,hr,asAddr,bind_assoc,pure_bind,map_eq_pure_bind,Sem.run_bind,h1,h2,h3,Result.andThen_ok,Sem.run_pure];rfl
theorem qdJ{w:World}{b i:Nat}{v:Value}(h:w.cell? ⟨b,i,none⟩=some v):w.setCell ⟨b,i,none⟩ v=w:=by
 obtain⟨hp,tp,dr,os,ou⟩:=w;unfold World.setCell;simp only[World.cell?]at h⊢;congr 1;apply Array.ext_getElem?;intro k;rw[Array.getElem?_modify];split
 ·next e =>
  subst e
  cases hk:hp[b]? with
  | none=>rfl
  | some o =>
    rw[hk]at h;cases o<;>simp_all
    apply Array.ext_getElem?;intro j;rw[Array.getElem?_setIfInBounds];split
    ·next e=>subst e;split<;>simp_all
    ·rfl
 ·rfl
theorem qdF{W:World}{b n:Nat}{q:PastM}(hn:n<=4)(p0:W.cell? ⟨b,0,none⟩=some (.int .i64 q.a))(p1:W.cell? ⟨b,1,none⟩=some (.int .i64 q.b))(p2:W.cell? ⟨b,2,none⟩=some (.int .i64 q.c))(p3:W.cell? ⟨b,3,none⟩=some (.int .i64 q.d)):qi W 1 encI (some ⟨b,0,none⟩) (rowOf n q) :=
 fun _=>⟨b,0,rfl,fun i x hx j v hv=>by
  have hi:i<n:=by have:=(qB hx).1;simpa[rowOf]using this
  have hxe:q.get i=x:=by simpa[rowOf,hi]using hx
  have hj:j=0:=by have:=(qB hv).1;simpa[encI]using this
  subst hj hxe;have hv2:Value.int .i64 (q.get i)=v:=by simpa[encI]using hv
  subst hv2;rw[show 0+i*1+0=i by omega]
  match i,hi with
  | 0,_=>exact p0
  | 1,_=>exact p1
  | 2,_=>exact p2
  | 3,_=>exact p3
  | k+4,h=>omega⟩
structure EZ (D:DayM) (M b T:Nat) (a:Option Addr) (c:Nat) (Z:World):Prop where
 d6:B6 Z T (.slice D.ta D.ts.length D.tc) (.slice D.ga D.gs.length D.gc) (.slice D.oa D.os.length D.oc) (.slice D.ha D.hs.length D.hc) (.slice D.ca D.cs.length D.cc) (.map (some M))
 hl:Z.cell? ⟨T+1,0,none⟩=some (.slice a (qx D).length c)
 rows:qi Z 4 Zx a (qx D)
 c1:Z.cell? ⟨b+1,0,none⟩=some (.slice none 0 0)
 c2:Z.cell? ⟨b+2,0,none⟩=some (.bool false)
 c3:Z.cell? ⟨b+3,0,none⟩=some (.int .i64 0)
 f1:Z.frozen? ⟨b+1,0,none⟩=false
 f2:Z.frozen? ⟨b+2,0,none⟩=false
 f3:Z.frozen? ⟨b+3,0,none⟩=false
 m0:b+4<=M
 m1:M<T
 m2:T+2<=Z.heap.size
theorem EZ.mod{D:DayM}{M b T:Nat}{a:Option Addr}{c:Nat}{Z X:World}(h:EZ D M b T a c Z)(hm:Mod (fun k=>k=M) Z X)(hr:qi X 4 Zx a (qx D)):EZ D M b T a c X :=
 have:=h.m0;have:=h.m1
 ⟨h.d6.mod hm (by omega),hm.cell h.hl (by simp only;omega),hr,hm.cell h.c1 (by simp only;omega),hm.cell h.c2 (by simp only;omega),hm.cell h.c3 (by simp only;omega),
   (hm.frozen h.c1 (by simp only;omega)).trans h.f1,(hm.frozen h.c2 (by simp only;omega)).trans h.f2,(hm.frozen h.c3 (by simp only;omega)).trans h.f3,h.m0,h.m1,Nat.le_trans h.m2 hm.size⟩
structure EJ (D:DayM) (M:Nat) (W1 Z:World) (r:Loop) (X:World):Prop where
 st:St D M (fun k=>Z.heap.size<=k/\k<Z.heap.size+7) W1 X
 gr:Z.grownBy X (some M)
 rl:X.heap[Z.heap.size+3]? = some (.loop r)
 rd:X.heap[Z.heap.size+2]? = some (.deferred (some []))
structure EX (n b:Nat) (w Z:World) (T:Nat) (r:Loop) (q:PastM) (X:World):Prop where
 rl:X.heap[Z.heap.size+3]? = some (.loop (JS r))
 rd:X.heap[Z.heap.size+2]? = some (.deferred (some []))
 old:∀k,T+2<=k->k<Z.heap.size->X.heap[k]? = Z.heap[k]?
 c2:X.cell? ⟨b+2,0,none⟩=some (.bool true)
 c3:X.cell? ⟨b+3,0,none⟩=some (.int .i64 0)
 ex:∃a c,X.cell? ⟨b+1,0,none⟩=some (.slice a n c)/\n<=c/\yo (Z.heap.size+7) X 1 encI a (rowOf n q)
 bel:Below w.heap.size w X
section
variable {D:DayM} {M b T:Nat} {a:Option Addr} {c:Nat} {W1 Z:World} {r:Loop} {X X1:World}
theorem EJ.lt(h:EJ D M W1 Z r X):Z.heap.size+3<X.heap.size:=(qy h.rl).1
theorem EJ.mod{S:Nat->Prop}(h:EJ D M W1 Z r X)(hM:M<Z.heap.size)(hw:W1.heap.size<=Z.heap.size)(hm:Mod S X X1)(hs:∀k,S k->k=Z.heap.size+5):EJ D M W1 Z r X1:=by
 have hlt:=h.lt;refine⟨h.st.mod hm (fun k hk=>by have:=hs k hk;exact⟨⟨by omega,by omega⟩,by omega,by omega⟩) (fun k hk=>.inl hk),zU h.gr hm (fun k hk=>by have:=hs k hk;omega),?_,?_⟩
 ·exact(hm.block _ hlt (fun e=>by have:=hs _ e;omega)).trans h.rl
 ·exact(hm.block _ (by omega) (fun e=>by have:=hs _ e;omega)).trans h.rd
end
def marksOf(bs:List Nat):List Deferred:=bs.map fun k=>{ target:=.collected k,args:=#[] }
theorem jR{F:Fence}{n:Nat}{P:Program}{fn:Func}{tmps:Array Value}{R:Ending->World->Prop}:∀(bs:List Nat) (W:World),bs.Nodup->(∀k∈bs,W.heap[k]? = some (.deferred (some [])))->(∀W',Mod (fun k=>k∈bs) W W'->LeavesInM F n P fn tmps R [] .returning W')->LeavesInM F n P fn tmps R (marksOf bs) .returning W
 | [],W,_,_,h=>h W (Mod.refl _ _)
 | k::bs,W,hn,hb,h=>by
   refine⟨by simp,.inl ⟨k,_,rfl,run_takeDeferred (hb k (List.mem_cons_self)),?_⟩⟩;have hm:Mod (fun j=>j∈k::bs) W (W.putObj k (.deferred none)):=Mod.grown (grownBy_putObj' _ _ _) (fun j e=>by cases e;exact List.mem_cons_self);refine jR bs _ (List.nodup_cons.1 hn).2 (fun j hj=>?_) (fun W' hW=>h W' (hm.trans (hW.mono fun j e=>List.mem_cons_of_mem _ e)));rw[World.putObj_heap_other (fun e=>(List.nodup_cons.1 hn).1 (by subst e;exact hj))];exact hb j (List.mem_cons_of_mem _ hj)
theorem qcW(D:DayM)(w:World)(h:DayAt w D)(hs:DaySm D)(hG:Globs w):Calls qp 41 #[dv D] w (ExtP D w):=by
 obtain⟨W,hW⟩:∃W,(((w.alloc (Obj.cells #[.slice D.ta D.ts.length D.tc,.slice D.ga D.gs.length D.gc,.slice D.oa D.os.length D.oc,.slice D.ha D.hs.length D.hc,.slice D.ca D.cs.length D.cc] 28)).alloc (Obj.cells #[.slice none 0 0] 31)).alloc (Obj.cells #[.bool false] 4)).alloc (Obj.cells #[.int .i64 0] 32)=W:=⟨_,rfl⟩;have hBW:Below w.heap.size w W:=by subst hW;go_grown
 have hsW:W.heap.size=w.heap.size+4:=by subst hW;simp
 have k0:W.cell? ⟨w.heap.size,0,none⟩=some (.slice D.ta D.ts.length D.tc):=by subst hW;go_cell
 have k1:W.cell? ⟨w.heap.size,1,none⟩=some (.slice D.ga D.gs.length D.gc):=by subst hW;go_cell
 have k2:W.cell? ⟨w.heap.size,2,none⟩=some (.slice D.oa D.os.length D.oc):=by subst hW;go_cell
 have k3:W.cell? ⟨w.heap.size,3,none⟩=some (.slice D.ha D.hs.length D.hc):=by subst hW;go_cell
 have k4:W.cell? ⟨w.heap.size,4,none⟩=some (.slice D.ca D.cs.length D.cc):=by subst hW;go_cell
 have b1:W.cell? ⟨w.heap.size+1,0,none⟩=some (.slice none 0 0):=by subst hW;go_cell
 have b2:W.cell? ⟨w.heap.size+1+1,0,none⟩=some (.bool false):=by subst hW;go_cell
 have b3:W.cell? ⟨w.heap.size+1+1+1,0,none⟩=some (.int .i64 0):=by subst hW;go_cell
 have g1:W.frozen? ⟨w.heap.size+1,0,none⟩=false:=by subst hW;go_cell
 have g2:W.frozen? ⟨w.heap.size+1+1,0,none⟩=false:=by subst hW;go_cell
 have g3:W.frozen? ⟨w.heap.size+1+1+1,0,none⟩=false:=by subst hW;go_cell
 have hask:=yF D W (h.keep hBW) hs (hG.keep hBW) 63 #[] (cE 63 (by decide +kernel)) 0 (fun M V hM hB=>by unfold dm;exact yV _ _ _ _ _ _ V);have hdv:dv D=.agg #[.slice D.ta D.ts.length D.tc,.slice D.ga D.gs.length D.gc,.slice D.oa D.os.length D.oc,.slice D.ha D.hs.length D.hc,.slice D.ca D.cs.length D.cc]:=rfl;rw[hdv]at hask⊢;have HD:=qd (qg h hs);unfold ExtP;clear h hs hG hdv;by_cases ha:zt D 0=0
 ·have hz:=yj ha;have hok:=hask.mono (fun e w' h=>h.ok ha);have HA:=qd ha;have HZ:=qd hz.1;clear hask ha hz;refine callsIn_wide.1 (callsIn_of_wp_marks (n:=2) (sf 41 f41) rfl trivial (wpIn_wide.2 ?_) rfl);simp only[ntmps41,List.size_toArray,List.length_cons,List.length_nil,Nat.reduceAdd,Nat.reduceSub,Array.replicate_succ,Array.replicate_zero,List.push_toArray,List.append_toArray,List.nil_append,List.cons_append];go_upto_region 1 with fail;try rw[hW]
  clear hW;unfold dm at hok;have B1:=qd b1;have B2:=qd b2;have B3:=qd b3;go_upto_region 2 with(go_at_call 42;(with_reducible refine hok.mono ?_);rintro e w1 ⟨M,a,c,rfl,hpos,hlc,hrow,hfr,hst⟩;have hs1:=hst.bel.size;have b1:=qb _ hst.bel b1;have b2:=qb _ hst.bel b2;have b3:=qb _ hst.bel b3;have hlt9:w.heap.size+1+1+1<w1.heap.size:=(by omega);have hlt8:w.heap.size+1+1+1<w1.heap.size+1:=(by omega);have g3:=qf _ hst.bel B3.out g3);rw[qdJ b3];obtain⟨V,hV⟩:∃V,(w1.alloc (Obj.cells #[.slice D.ta D.ts.length D.tc,.slice D.ga D.gs.length D.gc,.slice D.oa D.os.length D.oc,.slice D.ha D.hs.length D.hc,.slice D.ca D.cs.length D.cc,.map (some M)] 73)).alloc (Obj.cells #[.slice a (qx D).length c] 74)=V:=⟨_,rfl⟩;have hBV:Below w1.heap.size w1 V:=by subst hV;go_grown
  have h7:B6 V w1.heap.size (.slice D.ta D.ts.length D.tc) (.slice D.ga D.gs.length D.gc) (.slice D.oa D.os.length D.oc) (.slice D.ha D.hs.length D.hc) (.slice D.ca D.cs.length D.cc) (.map (some M)):=by subst hV;exact⟨by go_cell,by go_cell,by go_cell,by go_cell,by go_cell,by go_cell⟩
  have hl7:V.cell? ⟨w1.heap.size+1,0,none⟩=some (.slice a (qx D).length c):=by subst hV;go_cell
  have hszV:V.heap.size=w1.heap.size+2:=by subst hV;simp
  have hsV:=hst.keep hBV;have hrV:=hrow.keep hBV;have hML:=hst.kn.lt;have hMW:=hst.le;have b3:=qb _ hst.bel B3.out;have hEZ:EZ D M w.heap.size w1.heap.size a c V:=⟨h7,hl7,hrV,qb _ hBV b1,qb _ hBV b2,qb _ hBV b3,(qf _ hBV b1 (qf _ hst.bel B1.out g1)),(qf _ hBV b2 (qf _ hst.bel B2.out g2)),qf _ hBV b3 g3,by omega,hML,by omega⟩;have c3:=hEZ.c3;obtain⟨T,hT⟩:∃T,w1.heap.size=T:=⟨_,rfl⟩;rw[hT]at hEZ hszV⊢;rw[hV];have HEZ:=qd hEZ;have HSV:=qd hsV;clear hV hBV h7 hl7 hsV hrV hst hok hfr hrow b1 b2 b3 g1 g2 g3 k0 k1 k2 k3 k4 B1 B2 B3 hEZ;go_wp2;have hgs:=(qY D HZ.out).gs;obtain⟨I,hI⟩:∃I:Act->World->Prop,I=fun a' X=>∃u7 u8 u9 u10 u11 u12 u13 u14 u15 u16 u17 u19 u20 u21 u22 u23 u24 u25 u26 u27 u28 u29 u30 u31 u32 u33 u34 u35 u36 u37 u38 u39 u40 u41:Value,∃(k:Nat) (bs:List Nat),a'={ tmps:=#[dv D,pt w.heap.size,pt (w.heap.size+1),pt (w.heap.size+1+1),pt (w.heap.size+1+1+1),pt T,pt (T+1),u7,u8,u9,u10,u11,u12,u13,u14,u15,u16,u17,.int .i64 k,u19,u20,u21,u22,u23,u24,u25,u26,u27,u28,u29,u30,u31,u32,u33,u34,u35,u36,u37,u38,u39,u40,u41],defers:=marksOf bs }/\k<=4/\Hid (St D M (fun _=>False) W X)/\Hid (EZ D M w.heap.size T a c X)/\Hid (bs.Nodup)/\Hid (∀j∈bs,T+2<=j/\X.heap[j]? = some (.deferred (some [])))/\Hid (∀j,j<k->Zz D j=none):=⟨_,rfl⟩;have HII:Hid (∀u7 u8 u9 u10 u11 u12 u13 u14 u15 u16 u17 u19 u20 u21 u22 u23 u24 u25 u26 u27 u28 u29 u30 u31 u32 u33 u34 u35 u36 u37 u38 u39 u40 u41 (k:Nat) (bs:List Nat) X,k<=4->St D M (fun _=>False) W X->EZ D M w.heap.size T a c X->bs.Nodup->(∀j∈bs,T+2<=j/\X.heap[j]? = some (.deferred (some [])))->(∀j,j<k->Zz D j=none)->I { tmps:=#[dv D,pt w.heap.size,pt (w.heap.size+1),pt (w.heap.size+1+1),pt (w.heap.size+1+1+1),pt T,pt (T+1),u7,u8,u9,u10,u11,u12,u13,u14,u15,u16,u17,.int .i64 k,u19,u20,u21,u22,u23,u24,u25,u26,u27,u28,u29,u30,u31,u32,u33,u34,u35,u36,u37,u38,u39,u40,u41],defers:=marksOf bs } X):=qd (fun u7 u8 u9 u10 u11 u12 u13 u14 u15 u16 u17 u19 u20 u21 u22 u23 u24 u25 u26 u27 u28 u29 u30 u31 u32 u33 u34 u35 u36 u37 u38 u39 u40 u41 k bs X h1 h2 h3 h4 h5 h6=>by rw[hI];exact⟨_,_,_,_,_,_,_,_,_,_,_,_,_,_,_,_,_,_,_,_,_,_,_,_,_,_,_,_,_,_,_,_,_,_,k,bs,rfl,h1,qd h2,qd h3,qd h4,qd h5,qd h6⟩)
  refine wp_loop I (fun a' _=>4-(intOf (a'.tmps.getD 18 undef)).toNat) ?_ ?_
  ·exact HII.out _ _ _ _ _ _ _ _ _ _ _ _ _ _ _ _ _ _ _ _ _ _ _ _ _ _ _ _ _ _ _ _ _ _ 0 [] _ (by omega) HSV.out HEZ.out List.nodup_nil (fun _ h=>by cases h) (fun j h=>by omega)
  clear HSV HEZ c3 hlt8 hlt9 hszV;intro a0 X hI0;rw[hI]at hI0;clear hI;obtain⟨u7,u8,u9,u10,u11,u12,u13,u14,u15,u16,u17,u19,u20,u21,u22,u23,u24,u25,u26,u27,u28,u29,u30,u31,u32,u33,u34,u35,u36,u37,u38,u39,u40,u41,k,bs,rfl,hk,HST,HEZ,HND,HMK,HNO⟩:=hI0;by_cases hk4:k<4
  ·have d1:=HEZ.out.d6.c1;have hXT:=HEZ.out.m2;have hMT:=HEZ.out.m1;have hMb:=HEZ.out.m0;have hki:(k:Int)<4:=(by omega);go_upto_region 7 with fail;go_upto_region 8 with(go_at_call 95;(with_reducible refine(qfm _ _ _).mono ?_);rintro e Z0 ⟨rfl,rfl⟩);obtain⟨Y,hY⟩:∃Y,(X.alloc (Obj.cells #[.int .i64 D.gs.length] 3)).alloc (Obj.cells #[.int .i64 (k:Int)] 3)=Y:=⟨_,rfl⟩;have hBY:Below X.heap.size X Y:=(by subst hY;go_grown);have hYs:Y.heap.size=X.heap.size+2:=(by subst hY;simp);have y0:Y.cell? ⟨X.heap.size,0,none⟩=some (.int .i64 D.gs.length):=(by subst hY;go_cell);have y1:Y.cell? ⟨X.heap.size+1,0,none⟩=some (.int .i64 (k:Int)):=(by subst hY;go_cell);rw[hY];clear hY d1;refine(wpIn_wide (n:=2)).1 ?_;refine qcD (gf:=121) (rcv:=#[]) (lb:=#[pt X.heap.size,pt (X.heap.size+1)]) rfl (cE 121 (by decide +kernel)) ?_;intro r e1 e2 e3 e4 e5 e6 W1 hW1;rw[hYs];have hs1:W1.heap.size=X.heap.size+4:=(by rw[hW1];simp[hYs]);have hB1:Below X.heap.size X W1:=Below.call hBY (by rw[hW1];go_grown) (by omega);have hYW:Below Y.heap.size Y W1:=(by rw[hW1];go_grown);have q0:=qb _ hYW y0;have q1:=qb _ hYW y1;have hXw:W.heap.size<=X.heap.size:=HST.out.bel.size
   have hEJ:EJ D M W X r W1:=by
    refine⟨(HST.out.mod (S:=fun _=>False) (Mod.refl _ _) (fun _ e=>e.elim) (fun b hb=>.inr hb.1)).keep hB1,qo hB1,?_,?_⟩
    ·rw[hW1];have e:=World.alloc_heap_new (Y.alloc (.deferred (some []))) (.loop r);simpa[hYs]using e
    ·rw[hW1];have e:=World.alloc_heap_new Y (.deferred (some []));refine(Below.heap_alloc _ _ _ (by simp[hYs])).trans ?_;simpa[hYs]using e
   clear hW1 hYW hBY y0 y1
   have hYI:∀V q,EJ D M W X r V->MB X.heap.size (X.heap.size+4) (X.heap.size+3) D.gs.length V q->q.le 3->YieldAt Fence.wide 1 qp (X.heap.size+3) #[pvP q] V fun e W'=>NextP X.heap.size (X.heap.size+4) (X.heap.size+3) D.gs.length (EJ D M W X r) (EX D.gs.length w.heap.size w X T r) q (if qda D q then some q else none) e W':=by
    intro V q hJ hMB hq;clear q0 q1 hEJ hB1 hs1;obtain⟨O,hO⟩:∃O,(if qda D q then some q else none)=O:=⟨_,rfl⟩;rw[hO];have HO:=qd hO;clear hO;refine qcF hJ.rl e3 e1 e2 ?_;rw[e5,e6,e4];simp only[List.setIfInBounds_toArray,List.set_cons_zero,List.set_cons_succ];unfold pvP;clear e5 e6 e4;have HJ:=qd hJ;clear hJ
    gi_wp2
    have hJ:=HJ.out;have hVs:=hJ.lt;obtain⟨Wa,hWa⟩:∃Wa,V.alloc (Obj.cells #[.int .i64 q.a,.int .i64 q.b,.int .i64 q.c,.int .i64 q.d] 81)=Wa:=⟨_,rfl⟩;have hBa:Below V.heap.size V Wa:=(by subst hWa;go_grown);have p0:Wa.cell? ⟨V.heap.size,0,none⟩=some (.int .i64 q.a):=(by subst hWa;go_cell);have p1:Wa.cell? ⟨V.heap.size,1,none⟩=some (.int .i64 q.b):=(by subst hWa;go_cell);have p2:Wa.cell? ⟨V.heap.size,2,none⟩=some (.int .i64 q.c):=(by subst hWa;go_cell);have p3:Wa.cell? ⟨V.heap.size,3,none⟩=some (.int .i64 q.d):=(by subst hWa;go_cell);have hza:Wa.heap.size=V.heap.size+1:=(by subst hWa;simp);rw[hWa];refine⟨(hBa.block _ (by omega)).trans hJ.rl,?_⟩;have hma:Mod (fun b=>b=X.heap.size+3) Wa (Wa.putObj (X.heap.size+3) (.loop (YI r))):=Mod.grown (grownBy_putObj' _ _ _) (fun b e=>(qz e).symm);have hl2:(Wa.putObj (X.heap.size+3) (.loop (YI r))).heap[X.heap.size+3]? = some (.loop (YI r)):=World.putObj_heap_same (by omega);obtain⟨W2,hW2⟩:∃W2,Wa.putObj (X.heap.size+3) (.loop (YI r))=W2:=⟨_,rfl⟩;rw[hW2]at hma hl2⊢;have hm2:Mod (fun b=>b=X.heap.size+3) V W2:=(Mod.below hBa).trans hma;have p0:=hma.cell p0 (by simp only;omega);have p1:=hma.cell p1 (by simp only;omega);have p2:=hma.cell p2 (by simp only;omega);have p3:=hma.cell p3 (by simp only;omega);have hz2:=hm2.size;have hst2:St D M (fun j=>X.heap.size<=j/\j<X.heap.size+7) W W2:=hJ.st.mod hm2 (fun j hj=>by subst hj;exact⟨⟨by omega,by omega⟩,by omega,by omega⟩) (fun j hj=>.inl hj);have hgr2:X.grownBy W2 (some M):=zU hJ.gr hm2 (fun j hj=>by omega);have hrd2:W2.heap[X.heap.size+2]? = some (.deferred (some [])):=(hm2.block _ (by omega) (by omega)).trans hJ.rd
    have hEZ2:=HEZ.out.mod (Mod.grown hgr2 (fun j e=>(qz e).symm)) (HST.out.rows hgr2 HEZ.out.rows);have hz3:V.heap.size<W2.heap.size:=(by have:=hma.size;omega);have hM2:MB X.heap.size (X.heap.size+4) (X.heap.size+3) D.gs.length W2 q:=hMB.mod hm2 (by omega) (fun j h1 h2=>by omega);have hV7:X.heap.size+6<V.heap.size:=(by have:=lt_of_cell hMB.x;simp only at this;omega);have hx8:X.heap.size+7<=W2.heap.size:=(by have:=lt_of_cell hMB.x;simp only at this;omega);have hwo:=fun V2 (hS:St D M (fun j=>X.heap.size<=j/\j<X.heap.size+7) W V2) (hs:W2.heap.size<=V2.heap.size) (hr:qi V2 4 Zx a (qx D))=>qaN D M _ W V2 hS (fun j hj=>by have:=hj.2;omega) (qx D) a c (by have:=zb HZ.out;omega) hlc hr (Jy HZ.out) yA q hq;have has:=fun V2=>zX yA V2;unfold pvP at has;simp only[yA,zf,setOf]at has;unfold dm at hwo;simp only[yA]at hwo;clear hBa hma hm2 hWa hW2 hJ HJ hMB hVs e1 e2 e3;have HH:=qd (qg hl2 (qg hrd2 (qg hgr2 (qg hM2 hq))));clear hl2 hrd2 hgr2 hM2;have HWO:=qd hwo;have HAS:=qd has;clear hwo has;obtain⟨t0,t1,t2,t3,t4,t5⟩:=hEZ2.d6;have hl7:=hEZ2.hl;have HS2:=qd (qg hst2 hEZ2);clear hst2 hEZ2;have hno:∀n:Nat,((n:Int)==0)=(n==0):=fun n=>(by cases n<;>rfl);have hbn:=hno (yN D (qx D) q);obtain⟨n9,hn9⟩:∃n9,yN D (qx D) q=n9:=⟨_,rfl⟩;have hgd:qda D q=(n9==0):=(by unfold qda;rw[hn9]);rw[hn9]at HWO hbn;have hO:=HO.out;rw[hgd]at hO;clear hno hgd hn9 HO;obtain⟨B,hB⟩:∃B,(n9==0)=B:=⟨_,rfl⟩;rw[hB]at hbn hO;clear hB;have HO:=qd hO;clear hO
    gi_wp2_with (fail)
    obtain⟨Q1,hQ1⟩:∃Q1:Exit->Act->World->Prop,Q1=fun e a' X2=>e=.normal/\∃v0 v1 v7 v9 v10 v11 v12 v13 v14 v15 v16 v17 v18 v19 v20 v21 v22 v23 v24 v25 v26 v27 v28 v29 v30 v31 v32 v33 v35 v36 v37 v38 v39 v40 v41:Value,∃X1,a'={ tmps:=#[v0,v1,pt (w.heap.size+1),pt (w.heap.size+1+1),pt (w.heap.size+1+1+1),pt T,pt (T+1),v7,pt V.heap.size,v9,v10,v11,v12,v13,v14,v15,v16,v17,v18,v19,v20,v21,v22,v23,v24,v25,v26,v27,v28,v29,v30,v31,v32,v33,.bool B,v35,v36,v37,v38,v39,v40,v41],defers:=[] }/\Below W2.heap.size W2 X1/\St D M (fun j=>X.heap.size<=j/\j<X.heap.size+7) W X2/\X1.grownBy X2 (some M):=⟨_,rfl⟩;have HQI:Hid (∀v0 v1 v7 v9 v10 v11 v12 v13 v14 v15 v16 v17 v18 v19 v20 v21 v22 v23 v24 v25 v26 v27 v28 v29 v30 v31 v32 v33 v35 v36 v37 v38 v39 v40 v41 X1 X2,Below W2.heap.size W2 X1->St D M (fun j=>X.heap.size<=j/\j<X.heap.size+7) W X2->X1.grownBy X2 (some M)->Q1 .normal { tmps:=#[v0,v1,pt (w.heap.size+1),pt (w.heap.size+1+1),pt (w.heap.size+1+1+1),pt T,pt (T+1),v7,pt V.heap.size,v9,v10,v11,v12,v13,v14,v15,v16,v17,v18,v19,v20,v21,v22,v23,v24,v25,v26,v27,v28,v29,v30,v31,v32,v33,.bool B,v35,v36,v37,v38,v39,v40,v41],defers:=[] } X2):=qd (fun v0 v1 v7 v9 v10 v11 v12 v13 v14 v15 v16 v17 v18 v19 v20 v21 v22 v23 v24 v25 v26 v27 v28 v29 v30 v31 v32 v33 v35 v36 v37 v38 v39 v40 v41 X1 X2 h1 h2 h3=>by rw[hQ1];exact⟨rfl,_,_,_,_,_,_,_,_,_,_,_,_,_,_,_,_,_,_,_,_,_,_,_,_,_,_,_,_,_,_,_,_,_,_,_,X1,rfl,h1,h2,h3⟩);refine wpIn_mono (Q:=Q1) ?_ ?_
    ·clear hQ1
     gi_region_with (first|(refine⟨trivial,?_⟩;gi_at_call 48;(with_reducible refine((callsIn_wide.2 (HAS.out _)).inRound _).mono ?_);rintro e X1 ⟨rfl,hB1⟩;have hB9:Below W2.heap.size W2 X1:=bcl ((Below.refl _ W2).drew) hB1;have hz9:=hB9.size;have t0:=qb _ hB9 t0;have t1:=qb _ hB9 t1;have t2:=qb _ hB9 t2;have t3:=qb _ hB9 t3;have t4:=qb _ hB9 t4;have t5:=qb _ hB9 t5;have hl7:=qb _ hB9 hl7;have p0:=qb _ hB9 p0;have p1:=qb _ hB9 p1;have p2:=qb _ hB9 p2;have p3:=qb _ hB9 p3)|(refine⟨trivial,?_⟩;gi_at_call 96;(with_reducible refine((callsIn_wide.2 (HWO.out X1 (HS2.out.1.keep hB9) hB9.size (HS2.out.2.rows.keep hB9))).inRound _).mono ?_);rintro e X2 ⟨rfl,hst3,hg3⟩))
     all_goals exact HQI.out _ _ _ _ _ _ _ _ _ _ _ _ _ _ _ _ _ _ _ _ _ _ _ _ _ _ _ _ _ _ _ _ _ _ _ X1 _ hB9 hst3 hg3
    clear HQI;subst hQ1;rintro e a' X2 ⟨rfl,v0,v1,v7,v9,v10,v11,v12,v13,v14,v15,v16,v17,v18,v19,v20,v21,v22,v23,v24,v25,v26,v27,v28,v29,v30,v31,v32,v33,v35,v36,v37,v38,v39,v40,v41,X1,rfl,hBX,hst3,hg3⟩;obtain⟨hl2,hrd2,hgr2,hM2,hq2⟩:=HH.out;have hmX:Mod (fun j=>j=M) W2 X2:=(Mod.below hBX).trans (Mod.grown hg3 (fun j e=>(qz e).symm));have hzX:=hmX.size;have hlX:=(hmX.block (X.heap.size+3) (by omega) (by omega)).trans hl2;have hdX:=(hmX.block (X.heap.size+2) (by omega) (by omega)).trans hrd2;have hMX:=hM2.mod hmX (by omega) (fun j h1 h2=>by omega);have hgX:=qw hgr2 (hmX.toT (r:=some M) (fun j _ e=>by rw[e]));have hEX:=HEZ.out.mod (Mod.grown hgX (fun j e=>(qz e).symm)) (HST.out.rows hgX HEZ.out.rows);have p0:=hmX.cell p0 (by simp only;omega);have p1:=hmX.cell p1 (by simp only;omega);have p2:=hmX.cell p2 (by simp only;omega);have p3:=hmX.cell p3 (by simp only;omega);clear HH hM2 hl2 hrd2 hgr2 HWO HAS t0 t1 t2 t3 t4 t5 hl7 HS2 hbn
    cases B with
    | false =>
      have hO:=HO.out;simp only[Bool.false_eq_true,if_false]at hO;subst hO;have HF:=qd (qg hlX (qg hdX (qg hMX (qg hgX hst3))));clear hlX hdX hMX hgX hst3 hEX p0 p1 p2 p3 HO
      gi_wp2
      have hm3:Mod (fun j=>j=X.heap.size+3) X2 (X2.putObj (X.heap.size+3) (.loop r)):=Mod.grown (grownBy_putObj' _ _ _) (fun j e=>(qz e).symm);obtain⟨hlX,hdX,hMX,hgX,hst3⟩:=HF.out;exact⟨hlX,rfl,⟨hst3.mod hm3 (fun j hj=>by subst hj;exact⟨⟨by omega,by omega⟩,by omega,by omega⟩) (fun j hj=>.inl hj),zU hgX hm3 (fun j hj=>by omega),World.putObj_heap_same (by omega),(hm3.block _ (by omega) (by omega)).trans hdX⟩,hMX.mod hm3 (by omega) (fun j h1 h2=>by omega)⟩
    | true =>
      have hO:=HO.out;simp only[if_true]at hO;subst hO;have hrw:=qdF hgs p0 p1 p2 p3;have hlr:(rowOf D.gs.length q).length=D.gs.length:=(by simp[rowOf]);have hcl:=Je (rowOf D.gs.length q) (some ⟨V.heap.size,0,none⟩) 4 (by omega) (fun e=>by cases e) X2 hrw;rw[hlr]at hcl;have hn4:(D.gs.length:Int)<=4:=(by omega);have hn0:(0:Int)<=(D.gs.length:Int):=Int.natCast_nonneg _;have t1:=hEX.d6.c1;have c1:=hEX.c1;have c2:=hEX.c2;have c3:=hEX.c3;have HF:=qd (qg hlX (qg hdX (qg hgX (qg hst3 hEX))));clear hlX hdX hMX hgX hst3 hEX p0 p1 p2 p3 HO hrw
      gi_wp2_with (refine⟨trivial,?_⟩;gi_at_call 75;(with_reducible refine((callsIn_wide.2 hcl).inRound _).mono ?_);rintro e X3 ⟨a3,n3,rfl,hnc,hown,hnil,hB3⟩;have c1:=qb _ hB3 c1;have c2:=qb _ hB3 c2;have c3:=qb _ hB3 c3;have f1:=qf _ hB3 HF.out.2.2.2.2.c1 HF.out.2.2.2.2.f1;have f2:=qf _ hB3 HF.out.2.2.2.2.c2 HF.out.2.2.2.2.f2;have f3:=qf _ hB3 HF.out.2.2.2.2.c3 HF.out.2.2.2.2.f3)
      obtain⟨hlX,hdX,hgX,hst3,hEX⟩:=HF.out
      have hm4:Mod (fun j=>j=w.heap.size+1\/j=w.heap.size+2\/j=w.heap.size+3) X3 (((X3.setCell ⟨w.heap.size+1,0,none⟩ (.slice a3 D.gs.length n3)).setCell ⟨w.heap.size+2,0,none⟩ (.bool true)).setCell ⟨w.heap.size+3,0,none⟩ (.int .i64 0)) :=
       (((Mod.refl _ X3).put ⟨w.heap.size+1,0,none⟩ _ (.inl rfl)).put ⟨w.heap.size+2,0,none⟩ _ (.inr (.inl rfl))).put ⟨w.heap.size+3,0,none⟩ _ (.inr (.inr rfl))
      have e1:=qj (u:=.int .i64 0) (p:=⟨w.heap.size+3,0,none⟩) (qj (u:=.bool true) (p:=⟨w.heap.size+2,0,none⟩) (qA (v:=.slice a3 D.gs.length n3) (qL c1)) (.inl (by simp))) (.inl (by simp));have e2:=qj (u:=.int .i64 0) (p:=⟨w.heap.size+3,0,none⟩) (qA (v:=.bool true) (qL (qj (u:=.slice a3 D.gs.length n3) (p:=⟨w.heap.size+1,0,none⟩) c2 (.inl (by simp))))) (.inl (by simp));have e3:=qA (v:=.int .i64 0) (qL (qj (u:=.bool true) (p:=⟨w.heap.size+2,0,none⟩) (qj (u:=.slice a3 D.gs.length n3) (p:=⟨w.heap.size+1,0,none⟩) c3 (.inl (by simp))) (.inl (by simp))));obtain⟨X4,hX4⟩:∃X4,((X3.setCell ⟨w.heap.size+1,0,none⟩ (.slice a3 D.gs.length n3)).setCell ⟨w.heap.size+2,0,none⟩ (.bool true)).setCell ⟨w.heap.size+3,0,none⟩ (.int .i64 0)=X4:=⟨_,rfl⟩;rw[hX4]at hm4 e1 e2 e3;show qcv (X.heap.size+3) r _ Exit.ret _ (((X3.setCell ⟨w.heap.size+1,0,none⟩ (.slice a3 D.gs.length n3)).setCell ⟨w.heap.size+2,0,none⟩ (.bool true)).setCell ⟨w.heap.size+3,0,none⟩ (.int .i64 0));rw[hX4];have hm5:Mod (fun j=>j=X.heap.size+3) X4 (X4.putObj (X.heap.size+3) (.loop (JS r))):=Mod.grown (grownBy_putObj' _ _ _) (fun j e=>(qz e).symm);have hz4:=hm4.size;have hz5:=hB3.size;have hm34:Mod (fun j=>j=w.heap.size+1\/j=w.heap.size+2\/j=w.heap.size+3) X2 X4:=(Mod.below hB3).trans hm4;have hmA:Mod (fun j=>j=M\/j=w.heap.size+1\/j=w.heap.size+2\/j=w.heap.size+3\/j=X.heap.size+3) X (X4.putObj (X.heap.size+3) (.loop (JS r))):=((Mod.grown hgX (fun j e=>.inl (qz e).symm)).trans (hm34.mono (fun j e=>.inr (by omega)))).trans (hm5.mono (fun j e=>.inr (by omega)))
      refine⟨(hm34.block _ (by omega) (by omega)).trans hlX,rfl,World.putObj_heap_same (by omega),?_,fun j h1 h2=>hmA.block j h2 (by omega),hm5.cell e2 (by simp only;omega),hm5.cell e3 (by simp only;omega),⟨a3,n3,hm5.cell e1 (by simp only;omega),hnc,?_⟩,?_⟩
      ·exact(hm5.block _ (by omega) (by omega)).trans ((hm34.block _ (by omega) (by omega)).trans hdX)
      ·have hm45:Mod (fun j=>j<X2.heap.size) X3 (X4.putObj (X.heap.size+3) (.loop (JS r))):=(hm4.mono (fun j e=>by omega)).trans (hm5.mono (fun j e=>by omega));exact(hown.mod hm45 (fun p hp hj=>by have:=hown.1 p hp;omega)).from (by omega)
      ·have hm45:Mod (fun j=>w.heap.size<=j) X3 (X4.putObj (X.heap.size+3) (.loop (JS r))):=(hm4.mono (fun j e=>by omega)).trans (hm5.mono (fun j e=>by omega));exact(Below.call (Below.call hBW hst3.bel (by omega)) hB3 (by omega)).trans (hm45.keep (by omega) (fun j hj=>hj))
   have hm1:=qdm (r:=X.heap.size) (l:=X.heap.size+3) (n:=D.gs.length) (left:=(k:Int)) (good:=qda D) (J:=EJ D M W X r) (Jx:=EX D.gs.length w.heap.size w X T r) W1 (X.heap.size+4) hs1 hgs (by omega) (by omega) q0 q1 (fun V V1 hJ hB=>hJ.mod (by omega) hXw (Mod.below hB (S:=fun _=>False)) (fun _ e=>e.elim)) (fun V i v hJ _=>hJ.mod (by omega) hXw (Mod.grown (yZ V _ _) (S:=fun j=>j=X.heap.size+5) (fun b e=>(qz e).symm)) (fun _ e=>e)) hYI hEJ;refine hm1.mono ?_;clear hm1 hYI hEJ q0 q1 hB1 hs1;intro e V hV
   cases hx:Zz D k with
   | none =>
     have hxk:=hx;unfold Zz at hx;rw[hx]at hV;obtain⟨hv,hJ⟩:=hV;refine⟨hv,.inl ⟨hJ.rl,?_⟩⟩;have hlt:=hJ.lt;have hmO:Mod (fun j=>j=X.heap.size+3) V (V.putObj (X.heap.size+2+1) (.loop (qdq r))):=Mod.grown (grownBy_putObj' _ _ _) (fun j e=>(qz e).symm);obtain⟨V2,hV2⟩:∃V2,V.putObj (X.heap.size+2+1) (.loop (qdq r))=V2:=⟨_,rfl⟩;rw[hV2]at hmO⊢;have hst4:St D M (fun _=>False) W V2:=hJ.st.mod hmO (fun j hj=>by subst hj;exact⟨⟨by omega,by omega⟩,by omega,by omega⟩) (fun j hj=>hj.elim);have hgr4:X.grownBy V2 (some M):=zU hJ.gr hmO (fun j hj=>by omega);have hez4:=HEZ.out.mod (Mod.grown hgr4 (fun j e=>(qz e).symm)) (HST.out.rows hgr4 HEZ.out.rows)
     have hmk4:∀j∈(X.heap.size+2)::bs,T+2<=j/\V2.heap[j]? = some (.deferred (some [])):=fun j hj=>by
      rcases List.mem_cons.1 hj with rfl|hj
      ·exact⟨by omega,(hmO.block _ (by omega) (by omega)).trans hJ.rd⟩
      ·obtain⟨h1,h2⟩:=HMK.out j hj;exact⟨h1,(hgr4.block j (qy h2).1 (fun e=>by have:=qz e;omega)).trans h2⟩
     have hnd4:((X.heap.size+2)::bs).Nodup:=List.nodup_cons.2 ⟨fun hj=>by have:=(qy (HMK.out _ hj).2).1;omega,HND.out⟩
     have hno4:∀j,j<k+1->Zz D j=none:=fun j hj=>by
      by_cases e:j=k
      ·subst e;exact hxk
      ·exact HNO.out j (by omega)
     have HF:=qd (qg hst4 (qg hez4 (qg hnd4 (qg hmk4 hno4))));have hk1:k+1<=4:=(by omega);have hwk:wrap64 ((k:Int)+1)=(k:Int)+1:=qaP ⟨by omega,by omega⟩;clear hst4 hgr4 hez4 hmk4 hnd4 hno4 hV2 hmO hJ hv hx hxk e1 e2 e3 e4 e5 e6 HST HEZ HND HMK HNO;go_wp2;rw[hwk];clear hwk;refine⟨HII.out _ _ _ _ _ _ _ _ _ _ _ _ _ _ _ _ _ _ _ _ _ _ _ _ _ _ _ _ _ _ _ _ _ _ (k+1) ((X.heap.size+2)::bs) _ hk1 HF.out.1 HF.out.2.1 HF.out.2.2.1 HF.out.2.2.2.1 HF.out.2.2.2.2,?_⟩;simp[intOf];omega
   | some q =>
     have hxk:=hx;unfold Zz at hx;rw[hx]at hV;obtain⟨hv,hJ⟩:=hV;refine⟨hv,.inr ⟨hJ.rl,?_⟩⟩;have hlt:=(qy hJ.rl).1;have hmO:Mod (fun j=>j=X.heap.size+3) V (V.putObj (X.heap.size+2+1) (.loop (overR r))):=Mod.grown (grownBy_putObj' _ _ _) (fun j e=>(qz e).symm);obtain⟨V2,hV2⟩:∃V2,V.putObj (X.heap.size+2+1) (.loop (overR r))=V2:=⟨_,rfl⟩;rw[hV2]at hmO⊢
     have hmk4:∀j∈(X.heap.size+2)::bs,V2.heap[j]? = some (.deferred (some [])):=fun j hj=>by
      rcases List.mem_cons.1 hj with rfl|hj
      ·exact(hmO.block _ (by omega) (by omega)).trans hJ.rd
      ·obtain⟨h1,h2⟩:=HMK.out j hj;have hjx:=(qy h2).1;exact(hmO.block _ (by omega) (by omega)).trans ((hJ.old j h1 hjx).trans h2)
     have hbs:∀j∈(X.heap.size+2)::bs,w.heap.size+4<=j/\j<X.heap.size+3:=fun j hj=>by
      rcases List.mem_cons.1 hj with rfl|hj
      ·exact⟨by omega,by omega⟩
      ·obtain⟨h1,h2⟩:=HMK.out j hj;have hjx:=(qy h2).1;exact⟨by omega,by omega⟩
     have hnd4:((X.heap.size+2)::bs).Nodup:=List.nodup_cons.2 ⟨fun hj=>by have:=(qy (HMK.out _ hj).2).1;omega,HND.out⟩;have hext:=ext_some hk4 HNO.out hxk;have HF:=qd (qg hmk4 (qg hbs (qg hnd4 (qg hext (qg hJ hmO)))));clear hmk4 hbs hnd4 hext hV2 hmO hJ hv hx hxk e1 e2 e3 e4 e5 e6 HST HEZ HND HMK HNO HII;refine(wpIn_wide (n:=2)).2 ?_;go_wp2;obtain⟨hmk4,hbs,hnd4,hext,hJ,hmO⟩:=HF.out;refine jR ((X.heap.size+2)::bs) V2 hnd4 hmk4 (fun V3 hm3=>?_);have hm23:Mod (fun j=>w.heap.size+4<=j/\j<X.heap.size+4) V V3:=(hmO.mono (fun j e=>by omega)).trans (hm3.mono (fun j hj=>by have:=hbs j hj;omega));obtain⟨a3,n3,g1,hn3,hown⟩:=hJ.ex;have g1:=hm23.cell g1 (by simp only;omega);have g2:=hm23.cell hJ.c2 (by simp only;omega);have g3:=hm23.cell hJ.c3 (by simp only;omega);exact⟨_,QN results41 rfl rfl rfl (QX XZ g1) (QX XY g2) (QX YA g3),hJ.bel.trans (hm23.keep (by omega) (fun j hj=>by omega)),.inr ⟨HA.out,by show ExtV D V3 _ (extN D);rw[hext];exact⟨a3,n3,rfl,hn3,(hown.mod hm23 (fun p hp hj=>by have:=hown.1 p hp;omega)).rows⟩⟩⟩
  ·obtain rfl:k=4:=(by omega);have c1:=HEZ.out.c1;have c2:=HEZ.out.c2;have c3:=HEZ.out.c3;have f1:=HEZ.out.f1;have f2:=HEZ.out.f2;have f3:=HEZ.out.f3;have hbT:=HEZ.out.m2;have hMT:=HEZ.out.m1;have hMb:=HEZ.out.m0;have hext:=ext_none HNO.out;clear HII;go_wp2
   have hm4:Mod (fun j=>j=w.heap.size+1\/j=w.heap.size+2\/j=w.heap.size+3) X (((X.setCell ⟨w.heap.size+1,0,none⟩ (.slice none 0 0)).setCell ⟨w.heap.size+2,0,none⟩ (.bool false)).setCell ⟨w.heap.size+3,0,none⟩ (.int .i64 0)) :=
    (((Mod.refl _ X).put ⟨w.heap.size+1,0,none⟩ _ (.inl rfl)).put ⟨w.heap.size+2,0,none⟩ _ (.inr (.inl rfl))).put ⟨w.heap.size+3,0,none⟩ _ (.inr (.inr rfl))
   have e1:=qj (u:=.int .i64 0) (p:=⟨w.heap.size+3,0,none⟩) (qj (u:=.bool false) (p:=⟨w.heap.size+2,0,none⟩) (qA (v:=.slice none 0 0) (qL c1)) (.inl (by simp))) (.inl (by simp));have e2:=qj (u:=.int .i64 0) (p:=⟨w.heap.size+3,0,none⟩) (qA (v:=.bool false) (qL (qj (u:=.slice none 0 0) (p:=⟨w.heap.size+1,0,none⟩) c2 (.inl (by simp))))) (.inl (by simp));have e3:=qA (v:=.int .i64 0) (qL (qj (u:=.bool false) (p:=⟨w.heap.size+2,0,none⟩) (qj (u:=.slice none 0 0) (p:=⟨w.heap.size+1,0,none⟩) c3 (.inl (by simp))) (.inl (by simp))));show LeavesInM _ _ _ _ _ _ (marksOf bs) .returning (((X.setCell ⟨w.heap.size+1,0,none⟩ (.slice none 0 0)).setCell ⟨w.heap.size+2,0,none⟩ (.bool false)).setCell ⟨w.heap.size+3,0,none⟩ (.int .i64 0));obtain⟨V2,hV2⟩:∃V2,((X.setCell ⟨w.heap.size+1,0,none⟩ (.slice none 0 0)).setCell ⟨w.heap.size+2,0,none⟩ (.bool false)).setCell ⟨w.heap.size+3,0,none⟩ (.int .i64 0)=V2:=⟨_,rfl⟩;rw[hV2]at hm4 e1 e2 e3⊢;refine jR bs V2 HND.out (fun j hj=>?_) (fun V3 hm3=>?_)
   ·obtain⟨h1,h2⟩:=HMK.out j hj;exact(hm4.block _ (qy h2).1 (by omega)).trans h2
   ·have hm3:Mod (fun j=>T+2<=j) V2 V3:=hm3.mono (fun j hj=>(HMK.out j hj).1);have hm5:Mod (fun j=>w.heap.size<=j) X V3:=(hm4.mono (fun j e=>by omega)).trans (hm3.mono (fun j e=>by omega));have g1:=hm3.cell e1 (by simp only;omega);have g2:=hm3.cell e2 (by simp only;omega);have g3:=hm3.cell e3 (by simp only;omega);exact⟨_,QN results41 rfl rfl rfl (QX XZ g1) (QX XY g2) (QX YA g3),(Below.call hBW HST.out.bel (by omega)).trans (hm5.keep (by omega) (fun j hj=>hj)),.inr ⟨HA.out,by show ExtV D V3 _ (extN D);rw[hext];rfl⟩⟩
 ·have hbad:=hask.mono (fun e w' h=>h.bad ha);have hb:(zt D 0 != 0)=true:=by simpa using ha
  unfold dz at hbad;have HA:=qd ha;have B1:=qd b1;have B2:=qd b2;have B3:=qd b3;clear hask ha
  generalize zt D 0=r at *
  go_enter (sf 41 f41),ntmps41;go_upto_region 1 with fail;try rw[hW]
  clear hW;go_wp2_with (go_at_call 42;(with_reducible refine hbad.mono ?_);rintro e w1 ⟨rfl,hBx⟩;have hs1:=hBx.size;have b1:=qb _ hBx b1;have b2:=qb _ hBx b2;have b3:=qb _ hBx b3;have hlt7:w.heap.size+1<w1.heap.size:=(by omega);have hlt6:w.heap.size+1<w1.heap.size+1:=(by omega);have hlt5:w.heap.size+1+1<w1.heap.size:=(by omega);have hlt4:w.heap.size+1+1<w1.heap.size+1:=(by omega);have hlt9:w.heap.size+1+1+1<w1.heap.size:=(by omega);have hlt8:w.heap.size+1+1+1<w1.heap.size+1:=(by omega);have g1:=qf _ hBx B1.out g1;have g2:=qf _ hBx B2.out g2;have g3:=qf _ hBx B3.out g3);obtain⟨V5,hV5⟩:∃V5,((w1.setCell ⟨w.heap.size+1+1+1,0,none⟩ (.int .i64 r)).alloc (Obj.cells #[.slice none 0 0,.slice none 0 0,.slice none 0 0,.slice none 0 0,.slice none 0 0,.map none] 73)).alloc (Obj.cells #[.slice none 0 0] 74)=V5:=⟨_,rfl⟩;have hms:Mod (fun j=>j=w.heap.size+3) w1 (w1.setCell ⟨w.heap.size+3,0,none⟩ (.int .i64 r)):=(Mod.refl _ w1).put ⟨w.heap.size+3,0,none⟩ _ rfl;have hmv:Mod (fun j=>j=w.heap.size+3) w1 V5:=by subst hV5;exact hms.trans (Mod.below (((Below.refl _ _).alloc ql _).alloc (by simp) _))
  have d3:(w1.setCell ⟨w.heap.size+3,0,none⟩ (.int .i64 r)).cell? ⟨w.heap.size+3,0,none⟩=some (.int .i64 r):=qA (qL b3);have hB5:Below (w1.setCell ⟨w.heap.size+3,0,none⟩ (.int .i64 r)).heap.size (w1.setCell ⟨w.heap.size+3,0,none⟩ (.int .i64 r)) V5:=by subst hV5;exact((Below.refl _ _).alloc ql _).alloc (by simp) _
  have d3:=qb _ hB5 d3;have d1:=hmv.cell b1 (by simp only;omega);have d2:=hmv.cell b2 (by simp only;omega);have g1:=(hmv.frozen b1 (by simp only;omega)).trans g1;have g2:=(hmv.frozen b2 (by simp only;omega)).trans g2;have g3:V5.frozen? ⟨w.heap.size+3,0,none⟩=false:=qf _ hB5 (qA (qL b3)) (by simpa using g3);have hBV:Below w.heap.size w V5:=(Below.call hBW hBx (by omega)).trans ((hmv.mono (S':=fun j=>w.heap.size<=j) (fun j e=>by omega)).keep (by omega) (fun j hj=>hj));try rw[hV5]
  clear hV5 hms hmv hB5 b1 b2 b3 hbad hBx;go_region
  all_goals
   go_wp2;refine bodyPost_ret (QN results41 rfl rfl rfl (QX XZ (by go_cell)) (QX XY (by go_cell)) (QX YA (by go_cell))) rfl ⟨?_,.inl ⟨HA.out,rfl⟩⟩;exact hBV.trans (by go_grown)
end Go.Proofs.Tryz
end
