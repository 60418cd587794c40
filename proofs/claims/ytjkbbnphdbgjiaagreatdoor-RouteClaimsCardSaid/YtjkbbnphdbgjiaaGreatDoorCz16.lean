/-
  Lemmas about the program and the machine (AP2 to D21), upon which the last text of this claim rests; no condition.
-/
import Derived.Test.YtjkbbnphdbgjiaaGreatDoorCz15
set_option linter.unusedSimpArgs false
set_option linter.unusedVariables false
set_option maxRecDepth 100000
set_option maxHeartbeats 4000000
namespace Go.Proofs.Tryz
open Go Go.Load Go.LoadR Go.RowKit
theorem flat_int(l:List Int):l.flatMap encI=l.map (.int .i64):=by
 induction l with
 | nil=>rfl
 | cons x l ih=>rw[List.flatMap_cons,ih];rfl
theorem Ql{w:World}{ops:Array Oper}{o:Oper}{b:Act}{K:Act->World->Prop}{Q:Exit->Act->World->Prop}{E:Prop}(hgd:o.guard=none)(s x:Operand)(ho:o.op=.call { callee:=.builtin .append,args:=#[s,x],argTypes:=#[31,31] })(l:List Int)(a:Option Addr)(c n:Nat)(hn:l.length=n)(hln:n<=20)(hnc:a=none->c=0)(base b0:Nat)(hown:w.ownsRow base 3 1 (.slice (some ⟨b0,0,none⟩) 0 0) 0 [])(hbase:base<=w.heap.size)(hs:b.eval s=.slice (some ⟨b0,0,none⟩) 0 0)(hx:b.eval x=.slice a n c)(hr:qi w 1 encI a l)
 (h:∀g cap w',w'.ownsRow base 3 1 (.slice (some ⟨g,0,none⟩) n cap) n (l.map (.int .i64))->QD w w'->w.grownBy w' (some b0)->K (b.put o.dst (.slice (some ⟨g,0,none⟩) n cap)) w'):if Region.wanted o (yielded ops b.tmps)=true then Oper.wp qo o b w K Q else E:=by
 have hw:Region.wanted o (yielded ops b.tmps)=true:=by simp[Region.wanted,hgd]
 rw[if_pos hw];obtain⟨i0,hi,hiz,his,hib⟩:=info_parts yX;have hU:qo.underlying 31=some (.slice 3):=(qH _).trans Tryz.underlying31
 cases a with
 | none =>
   obtain rfl:c=0:=hnc rfl
   have hl:l=[]:=by
    cases l with
    | nil=>rfl
    | cons y l=>obtain⟨_,_,e,_⟩:=hr (by simp);cases e
   subst hl;obtain rfl:0=n:=hn;have hrun:=run_append_owned_none (P:=qo) (w:=w) base 31 o.type 3 i0 1 hU hi _ 0 [] hown;unfold Oper.wp;simp[execOp,ho,resolve,invoke,builtin,hs,hx,hrun,Result.andThen];exact h b0 0 w hown (QD.refl w) ⟨rfl,rfl,rfl,ql,fun _ _ _=>rfl⟩
 | some ad =>
   refine wp_append_own w s x 31 ho base 3 i0 (.int .i64 0) 1 8 hU hi hiz his hib rfl (by decide) _ 0 [] hs hown ad n c (l.flatMap encI) hx (by rw[xy (k:=1) (fun _=>rfl),hn]) (fun j u hu=>xX (k:=1) (fun _=>rfl) (by decide) hr j u hu) (qgt l) (by unfold maxLen;omega) (by omega) hbase ?_;intro v1 w3 hown1 hgrow1 hnil1;rw[List.nil_append,Nat.zero_add,flat_int]at hown1;obtain⟨hl,⟨h1,h2⟩|⟨g,cap,cur,rfl,_⟩⟩:=hown1
   ·have:=(hnil1.1 h1).1;cases this
   ·exact h g cap w3 ⟨hl,.inr ⟨g,cap,cur,rfl,by assumption⟩⟩ (ckept_of hown hgrow1) hgrow1
def zO:List GrpM->List Int->List (List Int)
 | [],t=>[t]
 | g::gs,t=>(QG g.lo g.hi).flatMap fun n=>zO gs (t++[n])
def Qg(g:GrpM)(gs:List GrpM)(t:List Int)(j:Nat):List (List Int):=(List.range j).flatMap fun(k:Nat)=>zO gs (t++[g.lo+(k:Int)])
theorem ja(g:GrpM)(gs:List GrpM)(t:List Int)(j:Nat):Qg g gs t (j+1)=Qg g gs t j++zO gs (t++[g.lo+(j:Int)]):=by
 unfold Qg;rw[List.range_succ,List.flatMap_append];simp
theorem Jh(g:GrpM)(gs:List GrpM)(t:List Int)(j:Nat)(h:g.lo+(j:Int)=g.hi+1):zO (g::gs) t=Qg g gs t j:=by
 unfold zO Qg QG;rw[List.flatMap_map,show(g.hi-g.lo+1).toNat=j by omega]
theorem yO:∀(gs:List GrpM) (t:List Int),(∀g∈gs,g.lo<=g.hi/\g.hi-g.lo<3)->1<=(zO gs t).length/\(zO gs t).length<=3 ^ gs.length
 | [],_,_=>by simp[zO]
 | g::gs,t,h=>by
   have hg:=h g (List.mem_cons_self ..);have ih:=fun t=>yO gs t fun x hx=>h x (List.mem_cons_of_mem _ hx);obtain⟨j,hj⟩:∃j:Nat,g.lo+(j:Int)=g.hi+1:=⟨(g.hi+1-g.lo).toNat,by omega⟩;rw[Jh g gs t j hj,List.length_cons,Nat.pow_succ]
   have H:∀j,(Qg g gs t j).length<=j*3 ^ gs.length/\(1<=j->1<=(Qg g gs t j).length):=by
    intro j
    induction j with
    | zero=>simp[Qg]
    | succ j ih2 =>
      have h1:=ih (t++[g.lo+(j:Int)]);rw[ja,List.length_append,Nat.add_mul];omega
   have:=H j;have hj3:j<=3:=(by omega);have hm:=Nat.mul_le_mul_right (3 ^ gs.length) hj3;exact⟨this.2 (by omega),by omega⟩
theorem Jf:(qo.info? 31).map (fun i=>(i.zero,i.size,i.bytes))=some (some (.slice none 0 0),1,24):=by kernel_rfl
theorem Qt(g:GrpM)(gs:List GrpM)(t:List Int)(h:∀u,(zO gs u).length<=27):∀j,(Qg g gs t j).length<=j*27
 | 0=>by simp[Qg]
 | j+1=>by
   rw[ja,List.length_append];have:=Qt g gs t h j;have:=h (t++[g.lo+(j:Int)]);omega
theorem JH(l:List WayM):l.flatMap yU=l.map wvW:=by
 induction l with
 | nil=>rfl
 | cons x l ih=>rw[List.flatMap_cons,ih];rfl
theorem qaf(l:List WayM):∀u∈l.map wvW,u.oneCell'=true:=fun u hu=>by
 obtain⟨x,_,rfl⟩:=List.mem_map.1 hu;rfl
theorem Qw{w w1:World}{r:Option Nat}{a:Option Addr}{l:List Int}(h:qi w 1 encI a l)(hg:w.grownBy w1 r)(hn:1<=l.length->∀p,a=some p->r≠some p.block):qi w1 1 encI a l:=fun hl=>by
 obtain⟨b,o,e,h⟩:=h hl;exact⟨b,o,e,fun i x hx j v hv=>hg.cell (h i x hx j v hv) (fun e9=>hn hl _ e e9.symm)⟩
def WaysIn(w:World)(B:Nat)(ta:Option Addr)(ws:List WayM):Prop:=∀x∈ws,qi w 1 encI x.a x.l/\x.l.length<=x.c/\(x.a=ta\/∀p,x.a=some p->B<=p.block)
def PastsP(D:DayM)(t:List Int)(ta:Option Addr)(w:World)(e:Ending)(w':World):Prop:=∃a c ws,e=.returned (.slice a ws.length c)/\ws.length<=c/\ws.map (·.l)=zO (D.gs.drop t.length) t/\qi w' 1 yU a ws/\WaysIn w' w.heap.size ta ws/\Below w.heap.size w w'
theorem Jk(D:DayM)(hz:checkN D=0)(hs:DaySm D):∀(m:Nat) (t:List Int) (ta:Option Addr) (tc:Nat) (w:World),DayAt w D->t.length+m=D.gs.length->t.length<=tc->qi w 1 encI ta t->(ta=none->tc=0)->Calls qo 67 #[dv D,.slice ta t.length tc] w (PastsP D t ta w)
 | 0,t,ta,tc,w,h,hl,hlc,hr,hn=>by
   have hdv:dv D=.agg #[.slice D.ta D.ts.length D.tc,.slice D.ga D.gs.length D.gc,.slice D.oa D.os.length D.oc,.slice D.ha D.hs.length D.hc,.slice D.ca D.cs.length D.cc]:=rfl;rw[hdv];have hgl:=hs.gs;have HP:=qd (qg hl (qg hlc hr));have hne:((t.length:Int)==(D.gs.length:Int))=true:=beq_iff_eq.2 (by omega);obtain⟨W,hW⟩:∃W,w.alloc (Obj.cells #[.slice D.ta D.ts.length D.tc,.slice D.ga D.gs.length D.gc,.slice D.oa D.os.length D.oc,.slice D.ha D.hs.length D.hc,.slice D.ca D.cs.length D.cc] 28)=W:=⟨_,rfl⟩;have k1:W.cell? ⟨w.heap.size,1,none⟩=some (.slice D.ga D.gs.length D.gc):=(by subst hW;go_cell);have hBW:Below w.heap.size w W:=(by subst hW;go_grown);clear h hl hlc hr hn hdv;go_enter (sf 67 f67),ntmps67;go_upto_region 1 with fail;(try rw[hW]);clear hW;go_wp2;go_ret
   have hr2:qi (W.alloc (Obj.cells #[.slice ta t.length tc] 31)) 1 yU (some ⟨W.heap.size,0,none⟩) [⟨t,ta,tc⟩]:=fun _=>⟨_,0,rfl,fun i x hx j v hv=>by
    have hi:i=0:=(by have:=(qC hx).1;simp at this;omega);subst hi;simp only[List.getElem?_cons_zero,Option.some.injEq]at hx;subst hx;have hj:j=0:=(by have:=(qC hv).1;simp[yU]at this;omega);subst hj;have hv2:v=.slice ta t.length tc:=(by simpa[yU]using hv.symm);subst hv2;show(W.alloc _).cell? ⟨W.heap.size,0,none⟩=_
    go_cell⟩
   refine⟨_,1,[⟨t,ta,tc⟩],rfl,ql,?_,hr2,fun x hx=>?_,bcl hBW ((Below.refl _ W).alloc ql _)⟩
   ·rw[List.drop_eq_nil_of_le (by have:=HP.out.1;omega)];rfl
   ·rw[List.mem_singleton]at hx;subst hx;exact⟨HP.out.2.2.keep (bcl hBW ((Below.refl _ W).alloc ql _)),HP.out.2.1,.inl rfl⟩
 | m+1,t,ta,tc,w,h,hl,hlc,hr,hn=>by
   have hih:=Jk D hz hs m;have hdv:dv D=.agg #[.slice D.ta D.ts.length D.tc,.slice D.ga D.gs.length D.gc,.slice D.oa D.os.length D.oc,.slice D.ha D.hs.length D.hc,.slice D.ca D.cs.length D.cc]:=rfl;have hgl:=(qE D hz).gs;have hgc:=hs.gs.2;have hlt:t.length<D.gs.length:=(by omega);obtain⟨g,hg⟩:∃g,D.gs[t.length]? = some g:=⟨_,qG hlt⟩;have hgo:=yD D hz g (qI hg)
   have hdr:D.gs.drop t.length=g::D.gs.drop (t.length+1):=by
    obtain⟨h1,rfl⟩:=qC hg;exact List.drop_eq_getElem_cons h1
   obtain⟨b,o,hga,hGP⟩:=h.gs (by omega);have s2:=hGP t.length g hg 2 _ rfl;have s3:=hGP t.length g hg 3 _ rfl;have hne:((t.length:Int)==(D.gs.length:Int))=false:=beq_eq_false_iff_ne.2 (by omega);have hk1:(t.length:Int)<(D.gs.length:Int):=(by omega);have hk2:(t.length:Int)<=(D.gc:Int):=(by omega);have hk0:(0:Int)<=(t.length:Int):=Int.natCast_nonneg _;have hplen:=fun u=>yO (D.gs.drop (t.length+1)) u (fun x hx=>by have:=yD D hz x (List.mem_of_mem_drop hx);omega)
   have hpow:3 ^ (D.gs.drop (t.length+1)).length<=27:=by
    have h9:(D.gs.drop (t.length+1)).length<=3:=(by rw[List.length_drop];omega);exact Nat.pow_le_pow_right (by decide) h9
   have htl:t.length<=20:=(by omega);have HD:=qd (qg h (qg hl (qg hlc (qg hr (qg hn (qg hdv (qg hdr (qg hih (qg hplen hpow)))))))));rw[hdv];clear h hl hlc hr hn hdv hih hGP hg hdr hplen hpow;obtain⟨W,hW⟩:∃W,w.alloc (Obj.cells #[.slice D.ta D.ts.length D.tc,.slice D.ga D.gs.length D.gc,.slice D.oa D.os.length D.oc,.slice D.ha D.hs.length D.hc,.slice D.ca D.cs.length D.cc] 28)=W:=⟨_,rfl⟩;have h5:B5 W w.heap.size (.slice D.ta D.ts.length D.tc) (.slice D.ga D.gs.length D.gc) (.slice D.oa D.os.length D.oc) (.slice D.ha D.hs.length D.hc) (.slice D.ca D.cs.length D.cc):=(by subst hW;exact B5.new ..);have hBW:Below w.heap.size w W:=(by subst hW;go_grown);obtain⟨k0,k1,k2,k3,k4⟩:=h5;replace s2:=qb _ hBW s2;replace s3:=qb _ hBW s3;rw[hga]at k1;have HG:=qd hga;clear hga;obtain⟨i0,hi,hiz,his,hib⟩:=info_parts yX;obtain⟨j0,hj,hjz,hjs,hjb⟩:=info_parts Jf;have hUI:qo.underlying 31=some (.slice 3):=(qH _).trans Tryz.underlying31;have hUW:qo.underlying 45=some (.slice 31):=(qH _).trans Tryz.underlying45;obtain⟨one,two,lo,hi2⟩:=g
   simp only at *
   go_enter (sf 67 f67),ntmps67;go_upto_region 1 with fail;(try rw[hW]);clear hW;go_upto_region 4 with fail;obtain⟨X,hX⟩:∃X,W.alloc (Obj.cells #[.int .i64 lo,.int .i64 hi2] 40)=X:=⟨_,rfl⟩;have hBX:Below W.heap.size W X:=(by subst hX;go_grown);have x0:X.cell? ⟨W.heap.size,0,none⟩=some (.int .i64 lo):=(by subst hX;go_cell);have x1:X.cell? ⟨W.heap.size,1,none⟩=some (.int .i64 hi2):=(by subst hX;go_cell);rw[hX];clear hX s2 s3;replace k0:=qb _ hBX k0;replace k1:=qb _ hBX k1;replace k2:=qb _ hBX k2;replace k3:=qb _ hBX k3;replace k4:=qb _ hBX k4;have HK:=qd (qg k0 (qg k1 (qg k2 (qg k3 (qg k4 (qg x0 x1))))));have hBw:=bcl hBW hBX;have hwX:w.heap.size<X.heap.size:=lt_of_cell k0;clear k0 k1 k2 k3 k4 hBW hBX hne x1;go_wp2;clear x0;go_loopw [7,6] (fun i u wr=>∃(j:Nat) (v:Value) (ws:List WayM),i=.int .i64 (lo+(j:Int))/\v=u/\lo+(j:Int)<=hi2+1/\Hid (Below X.heap.size X wr)/\Hid (wr.ownsRow X.heap.size 31 1 v ws.length (ws.map wvW))/\Hid (ws.map (·.l)=Qg ⟨one,two,lo,hi2⟩ (D.gs.drop (t.length+1)) t j)/\Hid (∀x∈ws,qi wr 1 encI x.a x.l/\x.l.length<=x.c/\∀p,x.a=some p->X.heap.size<=p.block/\(1<=x.l.length->p.block<wr.heap.size/\v.ownBlock≠some p.block))) (fun i _ _=>(hi2+1-intOf i).toNat);case atStart=>exact⟨0,_,[],by simp,rfl,by omega,qd (Below.refl _ _),qd (World.ownsRow_nil _ _ _ _),qd rfl,qd (fun x hx=>by cases hx)⟩
   case round =>
    obtain⟨j,v,ws,rfl,rfl,hj2,HB,HO,HM,HW⟩:=hrel;have hwl:=congrArg List.length HM.out;obtain⟨k0,k1,k2,k3,k4,x0,x1⟩:=HK.out;replace k0:=qb _ HB.out k0;replace k1:=qb _ HB.out k1;replace k2:=qb _ HB.out k2;replace k3:=qb _ HB.out k3;replace k4:=qb _ HB.out k4;replace x1:=qb _ HB.out x1;clear x0;by_cases hlt2:lo+(j:Int)<=hi2
    ·go_upto_region 8 with fail;clear x1;have hS0:RHL [(⟨w.heap.size,0,none⟩,.slice D.ta D.ts.length D.tc),(⟨w.heap.size,1,none⟩,.slice (some ⟨b,o,none⟩) D.gs.length D.gc),(⟨w.heap.size,2,none⟩,.slice D.oa D.os.length D.oc),(⟨w.heap.size,3,none⟩,.slice D.ha D.hs.length D.hc),(⟨w.heap.size,4,none⟩,.slice D.ca D.cs.length D.cc)] X wr:=⟨k0,k1,k2,k3,k4,HB.out⟩
     have HSX:Hid (RHL [(⟨w.heap.size,0,none⟩,.slice D.ta D.ts.length D.tc),(⟨w.heap.size,1,none⟩,.slice (some ⟨b,o,none⟩) D.gs.length D.gc),(⟨w.heap.size,2,none⟩,.slice D.oa D.os.length D.oc),(⟨w.heap.size,3,none⟩,.slice D.ha D.hs.length D.hc),(⟨w.heap.size,4,none⟩,.slice D.ca D.cs.length D.cc)] X X):=by
      obtain⟨k0,k1,k2,k3,k4,_,_⟩:=HK.out;exact qd ⟨k0,k1,k2,k3,k4,Below.refl _ _⟩
     refine wp_region_held_drew (S:=(RHL [(⟨w.heap.size,0,none⟩,.slice D.ta D.ts.length D.tc),(⟨w.heap.size,1,none⟩,.slice (some ⟨b,o,none⟩) D.gs.length D.gc),(⟨w.heap.size,2,none⟩,.slice D.oa D.os.length D.oc),(⟨w.heap.size,3,none⟩,.slice D.ha D.hs.length D.hc),(⟨w.heap.size,4,none⟩,.slice D.ca D.cs.length D.cc)] X)) (by kernel_rfl) (by exact RHL.drew hS0) (fun hHeld=>?_);refine tk 0 ?_;refine tk 1 ?_;refine tk 3 ?_;(refine tk 5 ?_;try simp only[zs,Act.put]);clear k0 k1 k2 k3 k4;refine wpAnyH_ready (rs:=[2,6]) (by kernel_rfl) (by simp) ?_;refine AllReadyH.cons rfl (fun K hK=>?_) (AllReadyH.cons rfl (fun K hK=>?_) AllReadyH.nil)
     ·go_simp;refine hK.out _ _ (by exact RHL.call hHeld ((Below.refl _ _).alloc ql _)) (fun hHeldN=>?_);clear hK K hHeld;have hHeld:=hHeldN;clear hHeldN;(try simp only[zs,Act.put]);refine wpAnyH_ready (rs:=[4,6]) (by kernel_rfl) (by simp) ?_;refine AllReadyH.cons rfl (fun K hK=>?_) (AllReadyH.cons rfl (fun K hK=>?_) AllReadyH.nil)
      ·have own1:=(qbV (w:=wr.drew) (base:=wr.heap.size) (e:=3) (size:=1) rfl ql);refine Ql rfl (.tmp 33) (.tmp 34) rfl t ta tc t.length rfl htl HD.out.2.2.2.2.1 wr.heap.size (wr.heap.size) own1 (by simp<;>omega) rfl rfl (HD.out.2.2.2.1.keep (bcl hBw (RHL.bel hHeld))) ?_;intro g1 c1 Y1 o1 ck1 q1;have hB1:Below wr.heap.size wr Y1:=((show Below wr.heap.size wr (wr.drew.alloc (Obj.cells #[] 3))from by go_grown)).trans ((Mod.grown (S:=fun b=>some b=some (wr.heap.size)) q1 (fun b e=>e.symm)).keep ((show Below wr.heap.size wr (wr.drew.alloc (Obj.cells #[] 3))from by go_grown)).size (fun b e=>by cases e;omega));refine hK.out _ _ (by exact RHL.call hS0 hB1) (fun hHeldN=>?_);clear hK K hHeld;have hHeld:=hHeldN;clear hHeldN;(try simp only[zs,Act.put]);refine tkR 6 fun K hK=>?_;go_simp;refine hK.out _ _ (by exact RHL.call hHeld ((Below.refl _ _).alloc ql _)) (fun hHeldN=>?_);clear hK K hHeld;have hHeld:=hHeldN;clear hHeldN;(try simp only[zs,Act.put]);have hOwn:((Y1.alloc (Obj.cells #[.int .i64 (lo+(j:Int))] 3))).ownsRow wr.heap.size 3 1 (.slice (some ⟨g1,0,none⟩) t.length c1) t.length (t.map (.int .i64)):=zf o1 ((Below.refl _ _).alloc ql _);have hNC:(Y1.alloc (Obj.cells #[.int .i64 (lo+(j:Int))] 3)).cell? ⟨Y1.heap.size,0,none⟩=some (.int .i64 (lo+(j:Int))):=(by go_cell);have hBT:Below wr.heap.size wr ((Y1.alloc (Obj.cells #[.int .i64 (lo+(j:Int))] 3))):=bcl hB1 ((Below.refl _ _).alloc ql _);have hwr:wrap64 (lo+(j:Int)+1)=lo+(j:Int)+1:=wrap_small (by omega) (by omega);have HWR:=qd hwr;clear hwr;have HG1:=qd hOwn
       refine tkR 7 fun K hK=>?_;refine step_append_lies _ rfl (.tmp 35) (.tmp 37) 31 rfl wr.heap.size 3 i0 (.int .i64 0) 1 8 hUI hi hiz his hib rfl (by decide) _ _ _ rfl hOwn _ 1 1 [.int .i64 (lo+(j:Int))] rfl rfl (xz hNC) (by simp[Value.oneCell']) (by decide) (by unfold maxLen;omega) (by omega) hBT.size _ rfl ?_;intro g2 c2 Y2 n2 q2 a2 b2;have hB2:Below wr.heap.size wr Y2:=hBT.trans ((Mod.grown (S:=fun b=>some b=some g1) q2 (fun b e=>e.symm)).keep hBT.size (fun b e=>by cases e;exact(HG1.out.lt _ rfl).1));refine hK.out _ _ (by exact RHL.call hS0 hB2) (fun hHeldN=>?_);clear hK K hHeld;have hHeld:=hHeldN;clear hHeldN;(try simp only[zs,Act.put]);have e9:(t++[lo+(j:Int)]).length=t.length+1:=by simp
       have hr2:qi Y2 1 encI (some ⟨g2,0,none⟩) (t++[lo+(j:Int)]):=by
        have n3:Y2.ownsRow wr.heap.size 3 1 (.slice (some ⟨g2,0,none⟩) (t.length+1) c2) (t.length+1) ((t++[lo+(j:Int)]).map (.int .i64)):=(by rw[List.map_append];exact n2);obtain⟨a,c,ea,_,hh⟩:=zt n3;cases ea;exact hh
       have hlc2:t.length+1<=c2:=by
        obtain⟨_,⟨h1,_⟩|⟨g,cap,cur,h1,_,_,h4,_⟩⟩:=n2
        ·cases h1
        ·cases h1;exact h4
       have hcall:=HD.out.2.2.2.2.2.2.2.1 (t++[lo+(j:Int)]) (some ⟨g2,0,none⟩) c2 Y2 (HD.out.1.keep (bcl hBw (Below.call HB.out hB2 ql))) (by rw[e9];have:=HD.out.2.1;omega) (by rw[e9];exact hlc2) hr2 (fun h=>by cases h);rw[HD.out.2.2.2.2.2.1,HG.out,e9]at hcall;have HCALL:=qd hcall;have hg2:=(n2.lt _ rfl).1;clear hcall hr2 e9 hNC hOwn;refine tkR 8 fun K hK=>?_;go_simp;go_wp2_with (go_at_call 67;(with_reducible refine HCALL.out.mono ?_);intro e Y3 hP;obtain⟨a3,c3,ws3,he,hc3,hm3,hr3,hw3,hB3⟩:=hP;subst he);have hBr:=bcl hB2 hB3;refine hK.out _ _ (by exact RHL.call hS0 hBr) (fun hHeldN=>?_);clear hK K hHeld;have hHeld:=hHeldN;clear hHeldN;(try simp only[zs,Act.put]);have hl3:=congrArg List.length hm3;rw[List.length_map]at hl3;have hp3:=HD.out.2.2.2.2.2.2.2.2.1 (t++[lo+(j:Int)]);have hp4:=HD.out.2.2.2.2.2.2.2.2.2;have hdl:D.gs.drop (t++[lo+(j:Int)]).length=D.gs.drop (t.length+1):=(by simp);rw[hdl]at hl3 hm3;have hjl:=Qt ⟨one,two,lo,hi2⟩ (D.gs.drop (t.length+1)) t (fun u=>Nat.le_trans (HD.out.2.2.2.2.2.2.2.2.1 u).2 hp4) j;rw[List.length_map]at hwl;have hb3:1<=ws3.length/\ws3.length<=27:=(by omega);have hbw:ws.length<=81:=(by omega);obtain⟨rb,ro,rfl,hP3⟩:=hr3 (by omega);have HR3:=qd (show qi Y3 1 yU (some ⟨rb,ro,none⟩) ws3 from fun _=>⟨rb,ro,rfl,hP3⟩);have hOv:=zf HO.out hBr;have HH:=qd (qg hm3 (qg hw3 hBr));clear hl3 hp3 hp4 hdl hjl hwl hm3 hw3 hP3 hr3;refine tkR 9 fun K hK=>?_;refine step_append_lies _ rfl (.tmp 31) (.tmp 39) 45 rfl X.heap.size 31 j0 (.slice none 0 0) 1 24 hUW hj hjz hjs hjb rfl (by decide) _ _ _ rfl hOv ⟨rb,ro,none⟩ ws3.length c3 (ws3.map wvW) rfl (by simp) (fun i u hu=>xX (k:=1) (enc:=yU) (fun _=>rfl) (by decide) HR3.out i u (by rw[JH];exact hu)) (qaf ws3) (by omega) (by unfold maxLen;omega) (by omega) (by have h8:=HB.out.size;have h9:=HH.out.2.2.size;omega) _ rfl ?_
       intro g4 c4 Y4 n4 q4 a4 b4;have hB4:Below X.heap.size X Y4:=(bcl HB.out HH.out.2.2).trans ((Mod.grown (S:=fun b=>v.ownBlock=some b) q4 (fun b e=>e)).keep (bcl HB.out HH.out.2.2).size (fun b hb=>(hOv.lt b hb).1));refine hK.out _ _ (by exact RHL.call HSX.out hB4) (fun hHeldN=>?_);clear hK K hHeld;have hHeld:=hHeldN;clear hHeldN;(try simp only[zs,Act.put]);(refine tk 10 ?_;try simp only[zs,Act.put]);refine wpAnyH_done (by kernel_rfl) ?_ _;(try simp only[zs,Act.put]);have hvl:∀b,v.ownBlock=some b->b<wr.heap.size:=fun b hb=>(HO.out.lt b hb).2;clear hHeld;have hwr:=HWR.out;go_wp2;go_roundw
       case rel =>
        clear hwr;refine⟨j+1,.slice (some ⟨g4,0,none⟩) (ws.length+ws3.length) c4,ws++ws3,congrArg (Value.int .i64) (by omega),rfl,by omega,qd hB4,qd ?_,qd ?_,qd fun x hx=>?_⟩
        ·rw[List.length_append,List.map_append];exact n4
        ·rw[List.map_append,HM.out,HH.out.1,ja]
        ·have h7:=HH.out.2.2.size;have h6:=q4.size;rcases List.mem_append.1 hx with hx|hx
         ·obtain⟨r1,r2,r3⟩:=HW.out x hx;refine⟨Qw (r1.keep HH.out.2.2) q4 (fun hl p hp=>((r3 p hp).2 hl).2),r2,fun p hp=>⟨(r3 p hp).1,fun hl=>⟨by have:=((r3 p hp).2 hl).1;omega,fun e=>?_⟩⟩⟩;have e2:g4=p.block:=(by simpa[Value.ownBlock]using e);have h8:=(r3 p hp).2 hl;rcases a4 with h9|h9
          ·exact h8.2 ((show v.ownBlock=some g4 from h9).trans (by rw[e2]))
          ·have:=h8.1;omega
         ·obtain⟨r1,r2,r3⟩:=HH.out.2.1 x hx
          have hge:∀p,x.a=some p->wr.heap.size<=p.block:=fun p hp=>by
           rcases r3 with h9|h9
           ·rw[h9]at hp;cases hp;exact hg2
           ·have:=h9 p hp;have:=hB2.size;omega
          have hlt9:1<=x.l.length->∀p,x.a=some p->p.block<Y3.heap.size:=fun hl p hp=>by
           obtain⟨b9,o9,e9,h9⟩:=r1 hl;rw[hp]at e9;cases e9;exact lt_of_cell (h9 0 _ (qG (by omega)) 0 _ rfl)
          refine⟨Qw r1 q4 (fun hl p hp e=>by have:=hvl _ e;have:=hge p hp;omega),r2,fun p hp=>⟨by have:=hge p hp;have:=HB.out.size;omega,fun hl=>⟨by have:=hlt9 hl p hp;omega,fun e=>?_⟩⟩⟩;have e2:g4=p.block:=(by simpa[Value.ownBlock]using e);rcases a4 with h9|h9
          ·have:=hvl _ h9;have:=hge p hp;omega
          ·have:=hlt9 hl p hp;omega
       case measure=>simp[intOf];omega
      ·go_simp;refine hK.out _ _ (by exact RHL.call hHeld ((Below.refl _ _).alloc ql _)) (fun hHeldN=>?_);clear hK K hHeld;have hHeld:=hHeldN;clear hHeldN;(try simp only[zs,Act.put]);refine tkR 4 fun K hK=>?_;have own1:=(show((wr.drew.alloc (Obj.cells #[] 3)).alloc (Obj.cells #[.int .i64 (lo+(j:Int))] 3)).ownsRow wr.heap.size 3 1 (.slice (some ⟨wr.heap.size,0,none⟩) 0 0) 0 []from zf (qbV (w:=wr.drew) (base:=wr.heap.size) (e:=3) (size:=1) rfl ql) ((Below.refl _ _).alloc ql _));refine Ql rfl (.tmp 33) (.tmp 34) rfl t ta tc t.length rfl htl HD.out.2.2.2.2.1 wr.heap.size (wr.heap.size) own1 (by simp<;>omega) rfl rfl (HD.out.2.2.2.1.keep (bcl hBw (RHL.bel hHeld))) ?_;intro g1 c1 Y1 o1 ck1 q1;have hB1:Below wr.heap.size wr Y1:=((show Below wr.heap.size wr ((wr.drew.alloc (Obj.cells #[] 3)).alloc (Obj.cells #[.int .i64 (lo+(j:Int))] 3))from by go_grown)).trans ((Mod.grown (S:=fun b=>some b=some (wr.heap.size)) q1 (fun b e=>e.symm)).keep ((show Below wr.heap.size wr ((wr.drew.alloc (Obj.cells #[] 3)).alloc (Obj.cells #[.int .i64 (lo+(j:Int))] 3))from by go_grown)).size (fun b e=>by cases e;omega));refine hK.out _ _ (by exact RHL.call hS0 hB1) (fun hHeldN=>?_);clear hK K hHeld;have hHeld:=hHeldN;clear hHeldN;(try simp only[zs,Act.put]);have hOwn:(Y1).ownsRow wr.heap.size 3 1 (.slice (some ⟨g1,0,none⟩) t.length c1) t.length (t.map (.int .i64)):=o1;have hNC:Y1.cell? ⟨wr.heap.size+1,0,none⟩=some (.int .i64 (lo+(j:Int))):=(ck1 _ _ (by go_cell)).1;have hBT:Below wr.heap.size wr (Y1):=hB1;have hwr:wrap64 (lo+(j:Int)+1)=lo+(j:Int)+1:=wrap_small (by omega) (by omega)
       have HWR:=qd hwr;clear hwr;have HG1:=qd hOwn;refine tkR 7 fun K hK=>?_;refine step_append_lies _ rfl (.tmp 35) (.tmp 37) 31 rfl wr.heap.size 3 i0 (.int .i64 0) 1 8 hUI hi hiz his hib rfl (by decide) _ _ _ rfl hOwn _ 1 1 [.int .i64 (lo+(j:Int))] rfl rfl (xz hNC) (by simp[Value.oneCell']) (by decide) (by unfold maxLen;omega) (by omega) hBT.size _ rfl ?_;intro g2 c2 Y2 n2 q2 a2 b2;have hB2:Below wr.heap.size wr Y2:=hBT.trans ((Mod.grown (S:=fun b=>some b=some g1) q2 (fun b e=>e.symm)).keep hBT.size (fun b e=>by cases e;exact(HG1.out.lt _ rfl).1));refine hK.out _ _ (by exact RHL.call hS0 hB2) (fun hHeldN=>?_);clear hK K hHeld;have hHeld:=hHeldN;clear hHeldN;(try simp only[zs,Act.put]);have e9:(t++[lo+(j:Int)]).length=t.length+1:=by simp
       have hr2:qi Y2 1 encI (some ⟨g2,0,none⟩) (t++[lo+(j:Int)]):=by
        have n3:Y2.ownsRow wr.heap.size 3 1 (.slice (some ⟨g2,0,none⟩) (t.length+1) c2) (t.length+1) ((t++[lo+(j:Int)]).map (.int .i64)):=(by rw[List.map_append];exact n2);obtain⟨a,c,ea,_,hh⟩:=zt n3;cases ea;exact hh
       have hlc2:t.length+1<=c2:=by
        obtain⟨_,⟨h1,_⟩|⟨g,cap,cur,h1,_,_,h4,_⟩⟩:=n2
        ·cases h1
        ·cases h1;exact h4
       have hcall:=HD.out.2.2.2.2.2.2.2.1 (t++[lo+(j:Int)]) (some ⟨g2,0,none⟩) c2 Y2 (HD.out.1.keep (bcl hBw (Below.call HB.out hB2 ql))) (by rw[e9];have:=HD.out.2.1;omega) (by rw[e9];exact hlc2) hr2 (fun h=>by cases h);rw[HD.out.2.2.2.2.2.1,HG.out,e9]at hcall;have HCALL:=qd hcall;have hg2:=(n2.lt _ rfl).1;clear hcall hr2 e9 hNC hOwn;refine tkR 8 fun K hK=>?_;go_simp;go_wp2_with (go_at_call 67;(with_reducible refine HCALL.out.mono ?_);intro e Y3 hP;obtain⟨a3,c3,ws3,he,hc3,hm3,hr3,hw3,hB3⟩:=hP;subst he);have hBr:=bcl hB2 hB3;refine hK.out _ _ (by exact RHL.call hS0 hBr) (fun hHeldN=>?_);clear hK K hHeld;have hHeld:=hHeldN;clear hHeldN;(try simp only[zs,Act.put]);have hl3:=congrArg List.length hm3;rw[List.length_map]at hl3;have hp3:=HD.out.2.2.2.2.2.2.2.2.1 (t++[lo+(j:Int)]);have hp4:=HD.out.2.2.2.2.2.2.2.2.2;have hdl:D.gs.drop (t++[lo+(j:Int)]).length=D.gs.drop (t.length+1):=(by simp);rw[hdl]at hl3 hm3;have hjl:=Qt ⟨one,two,lo,hi2⟩ (D.gs.drop (t.length+1)) t (fun u=>Nat.le_trans (HD.out.2.2.2.2.2.2.2.2.1 u).2 hp4) j;rw[List.length_map]at hwl;have hb3:1<=ws3.length/\ws3.length<=27:=(by omega);have hbw:ws.length<=81:=(by omega);obtain⟨rb,ro,rfl,hP3⟩:=hr3 (by omega);have HR3:=qd (show qi Y3 1 yU (some ⟨rb,ro,none⟩) ws3 from fun _=>⟨rb,ro,rfl,hP3⟩);have hOv:=zf HO.out hBr;have HH:=qd (qg hm3 (qg hw3 hBr));clear hl3 hp3 hp4 hdl hjl hwl hm3 hw3 hP3 hr3;refine tkR 9 fun K hK=>?_;refine step_append_lies _ rfl (.tmp 31) (.tmp 39) 45 rfl X.heap.size 31 j0 (.slice none 0 0) 1 24 hUW hj hjz hjs hjb rfl (by decide) _ _ _ rfl hOv ⟨rb,ro,none⟩ ws3.length c3 (ws3.map wvW) rfl (by simp) (fun i u hu=>xX (k:=1) (enc:=yU) (fun _=>rfl) (by decide) HR3.out i u (by rw[JH];exact hu)) (qaf ws3) (by omega) (by unfold maxLen;omega) (by omega) (by have h8:=HB.out.size;have h9:=HH.out.2.2.size;omega) _ rfl ?_
       intro g4 c4 Y4 n4 q4 a4 b4;have hB4:Below X.heap.size X Y4:=(bcl HB.out HH.out.2.2).trans ((Mod.grown (S:=fun b=>v.ownBlock=some b) q4 (fun b e=>e)).keep (bcl HB.out HH.out.2.2).size (fun b hb=>(hOv.lt b hb).1));refine hK.out _ _ (by exact RHL.call HSX.out hB4) (fun hHeldN=>?_);clear hK K hHeld;have hHeld:=hHeldN;clear hHeldN;(try simp only[zs,Act.put]);(refine tk 10 ?_;try simp only[zs,Act.put]);refine wpAnyH_done (by kernel_rfl) ?_ _;(try simp only[zs,Act.put]);have hvl:∀b,v.ownBlock=some b->b<wr.heap.size:=fun b hb=>(HO.out.lt b hb).2;clear hHeld;have hwr:=HWR.out;go_wp2;go_roundw
       case rel =>
        clear hwr;refine⟨j+1,.slice (some ⟨g4,0,none⟩) (ws.length+ws3.length) c4,ws++ws3,congrArg (Value.int .i64) (by omega),rfl,by omega,qd hB4,qd ?_,qd ?_,qd fun x hx=>?_⟩
        ·rw[List.length_append,List.map_append];exact n4
        ·rw[List.map_append,HM.out,HH.out.1,ja]
        ·have h7:=HH.out.2.2.size;have h6:=q4.size;rcases List.mem_append.1 hx with hx|hx
         ·obtain⟨r1,r2,r3⟩:=HW.out x hx;refine⟨Qw (r1.keep HH.out.2.2) q4 (fun hl p hp=>((r3 p hp).2 hl).2),r2,fun p hp=>⟨(r3 p hp).1,fun hl=>⟨by have:=((r3 p hp).2 hl).1;omega,fun e=>?_⟩⟩⟩;have e2:g4=p.block:=(by simpa[Value.ownBlock]using e);have h8:=(r3 p hp).2 hl;rcases a4 with h9|h9
          ·exact h8.2 ((show v.ownBlock=some g4 from h9).trans (by rw[e2]))
          ·have:=h8.1;omega
         ·obtain⟨r1,r2,r3⟩:=HH.out.2.1 x hx
          have hge:∀p,x.a=some p->wr.heap.size<=p.block:=fun p hp=>by
           rcases r3 with h9|h9
           ·rw[h9]at hp;cases hp;exact hg2
           ·have:=h9 p hp;have:=hB2.size;omega
          have hlt9:1<=x.l.length->∀p,x.a=some p->p.block<Y3.heap.size:=fun hl p hp=>by
           obtain⟨b9,o9,e9,h9⟩:=r1 hl;rw[hp]at e9;cases e9;exact lt_of_cell (h9 0 _ (qG (by omega)) 0 _ rfl)
          refine⟨Qw r1 q4 (fun hl p hp e=>by have:=hvl _ e;have:=hge p hp;omega),r2,fun p hp=>⟨by have:=hge p hp;have:=HB.out.size;omega,fun hl=>⟨by have:=hlt9 hl p hp;omega,fun e=>?_⟩⟩⟩;have e2:g4=p.block:=(by simpa[Value.ownBlock]using e);rcases a4 with h9|h9
          ·have:=hvl _ h9;have:=hge p hp;omega
          ·have:=hlt9 hl p hp;omega
       case measure=>simp[intOf];omega
     ·go_simp;refine hK.out _ _ (by exact RHL.call hHeld ((Below.refl _ _).alloc ql _)) (fun hHeldN=>?_);clear hK K hHeld;have hHeld:=hHeldN;clear hHeldN;(try simp only[zs,Act.put]);refine tkR 2 fun K hK=>?_;go_simp;refine hK.out _ _ (by exact RHL.call hHeld ((Below.refl _ _).alloc ql _)) (fun hHeldN=>?_);clear hK K hHeld;have hHeld:=hHeldN;clear hHeldN;(try simp only[zs,Act.put]);refine tkR 4 fun K hK=>?_;have own1:=(qbV (w:=wr.drew.alloc (Obj.cells #[.int .i64 (lo+(j:Int))] 3)) (base:=wr.heap.size) (e:=3) (size:=1) (b:=wr.heap.size+1) (by simp) (by omega));refine Ql rfl (.tmp 33) (.tmp 34) rfl t ta tc t.length rfl htl HD.out.2.2.2.2.1 wr.heap.size (wr.heap.size+1) own1 (by simp<;>omega) rfl rfl (HD.out.2.2.2.1.keep (bcl hBw (RHL.bel hHeld))) ?_;intro g1 c1 Y1 o1 ck1 q1;have hB1:Below wr.heap.size wr Y1:=((show Below wr.heap.size wr ((wr.drew.alloc (Obj.cells #[.int .i64 (lo+(j:Int))] 3)).alloc (Obj.cells #[] 3))from by go_grown)).trans ((Mod.grown (S:=fun b=>some b=some (wr.heap.size+1)) q1 (fun b e=>e.symm)).keep ((show Below wr.heap.size wr ((wr.drew.alloc (Obj.cells #[.int .i64 (lo+(j:Int))] 3)).alloc (Obj.cells #[] 3))from by go_grown)).size (fun b e=>by cases e;omega));refine hK.out _ _ (by exact RHL.call hS0 hB1) (fun hHeldN=>?_);clear hK K hHeld;have hHeld:=hHeldN;clear hHeldN;(try simp only[zs,Act.put]);have hOwn:(Y1).ownsRow wr.heap.size 3 1 (.slice (some ⟨g1,0,none⟩) t.length c1) t.length (t.map (.int .i64)):=o1;have hNC:Y1.cell? ⟨wr.heap.size,0,none⟩=some (.int .i64 (lo+(j:Int))):=(ck1 _ _ (by go_cell)).1
      have hBT:Below wr.heap.size wr (Y1):=hB1;have hwr:wrap64 (lo+(j:Int)+1)=lo+(j:Int)+1:=wrap_small (by omega) (by omega);have HWR:=qd hwr;clear hwr;have HG1:=qd hOwn;refine tkR 7 fun K hK=>?_;refine step_append_lies _ rfl (.tmp 35) (.tmp 37) 31 rfl wr.heap.size 3 i0 (.int .i64 0) 1 8 hUI hi hiz his hib rfl (by decide) _ _ _ rfl hOwn _ 1 1 [.int .i64 (lo+(j:Int))] rfl rfl (xz hNC) (by simp[Value.oneCell']) (by decide) (by unfold maxLen;omega) (by omega) hBT.size _ rfl ?_;intro g2 c2 Y2 n2 q2 a2 b2;have hB2:Below wr.heap.size wr Y2:=hBT.trans ((Mod.grown (S:=fun b=>some b=some g1) q2 (fun b e=>e.symm)).keep hBT.size (fun b e=>by cases e;exact(HG1.out.lt _ rfl).1));refine hK.out _ _ (by exact RHL.call hS0 hB2) (fun hHeldN=>?_);clear hK K hHeld;have hHeld:=hHeldN;clear hHeldN;(try simp only[zs,Act.put]);have e9:(t++[lo+(j:Int)]).length=t.length+1:=by simp
      have hr2:qi Y2 1 encI (some ⟨g2,0,none⟩) (t++[lo+(j:Int)]):=by
       have n3:Y2.ownsRow wr.heap.size 3 1 (.slice (some ⟨g2,0,none⟩) (t.length+1) c2) (t.length+1) ((t++[lo+(j:Int)]).map (.int .i64)):=(by rw[List.map_append];exact n2);obtain⟨a,c,ea,_,hh⟩:=zt n3;cases ea;exact hh
      have hlc2:t.length+1<=c2:=by
       obtain⟨_,⟨h1,_⟩|⟨g,cap,cur,h1,_,_,h4,_⟩⟩:=n2
       ·cases h1
       ·cases h1;exact h4
      have hcall:=HD.out.2.2.2.2.2.2.2.1 (t++[lo+(j:Int)]) (some ⟨g2,0,none⟩) c2 Y2 (HD.out.1.keep (bcl hBw (Below.call HB.out hB2 ql))) (by rw[e9];have:=HD.out.2.1;omega) (by rw[e9];exact hlc2) hr2 (fun h=>by cases h);rw[HD.out.2.2.2.2.2.1,HG.out,e9]at hcall;have HCALL:=qd hcall;have hg2:=(n2.lt _ rfl).1;clear hcall hr2 e9 hNC hOwn;refine tkR 8 fun K hK=>?_;go_simp;go_wp2_with (go_at_call 67;(with_reducible refine HCALL.out.mono ?_);intro e Y3 hP;obtain⟨a3,c3,ws3,he,hc3,hm3,hr3,hw3,hB3⟩:=hP;subst he);have hBr:=bcl hB2 hB3;refine hK.out _ _ (by exact RHL.call hS0 hBr) (fun hHeldN=>?_);clear hK K hHeld;have hHeld:=hHeldN;clear hHeldN;(try simp only[zs,Act.put]);have hl3:=congrArg List.length hm3;rw[List.length_map]at hl3;have hp3:=HD.out.2.2.2.2.2.2.2.2.1 (t++[lo+(j:Int)]);have hp4:=HD.out.2.2.2.2.2.2.2.2.2;have hdl:D.gs.drop (t++[lo+(j:Int)]).length=D.gs.drop (t.length+1):=(by simp);rw[hdl]at hl3 hm3;have hjl:=Qt ⟨one,two,lo,hi2⟩ (D.gs.drop (t.length+1)) t (fun u=>Nat.le_trans (HD.out.2.2.2.2.2.2.2.2.1 u).2 hp4) j;rw[List.length_map]at hwl;have hb3:1<=ws3.length/\ws3.length<=27:=(by omega);have hbw:ws.length<=81:=(by omega);obtain⟨rb,ro,rfl,hP3⟩:=hr3 (by omega);have HR3:=qd (show qi Y3 1 yU (some ⟨rb,ro,none⟩) ws3 from fun _=>⟨rb,ro,rfl,hP3⟩);have hOv:=zf HO.out hBr;have HH:=qd (qg hm3 (qg hw3 hBr));clear hl3 hp3 hp4 hdl hjl hwl hm3 hw3 hP3 hr3;refine tkR 9 fun K hK=>?_;refine step_append_lies _ rfl (.tmp 31) (.tmp 39) 45 rfl X.heap.size 31 j0 (.slice none 0 0) 1 24 hUW hj hjz hjs hjb rfl (by decide) _ _ _ rfl hOv ⟨rb,ro,none⟩ ws3.length c3 (ws3.map wvW) rfl (by simp) (fun i u hu=>xX (k:=1) (enc:=yU) (fun _=>rfl) (by decide) HR3.out i u (by rw[JH];exact hu)) (qaf ws3) (by omega) (by unfold maxLen;omega) (by omega) (by have h8:=HB.out.size;have h9:=HH.out.2.2.size;omega) _ rfl ?_
      intro g4 c4 Y4 n4 q4 a4 b4;have hB4:Below X.heap.size X Y4:=(bcl HB.out HH.out.2.2).trans ((Mod.grown (S:=fun b=>v.ownBlock=some b) q4 (fun b e=>e)).keep (bcl HB.out HH.out.2.2).size (fun b hb=>(hOv.lt b hb).1));refine hK.out _ _ (by exact RHL.call HSX.out hB4) (fun hHeldN=>?_);clear hK K hHeld;have hHeld:=hHeldN;clear hHeldN;(try simp only[zs,Act.put]);(refine tk 10 ?_;try simp only[zs,Act.put]);refine wpAnyH_done (by kernel_rfl) ?_ _;(try simp only[zs,Act.put]);have hvl:∀b,v.ownBlock=some b->b<wr.heap.size:=fun b hb=>(HO.out.lt b hb).2;clear hHeld;have hwr:=HWR.out;go_wp2;go_roundw
      case rel =>
       clear hwr;refine⟨j+1,.slice (some ⟨g4,0,none⟩) (ws.length+ws3.length) c4,ws++ws3,congrArg (Value.int .i64) (by omega),rfl,by omega,qd hB4,qd ?_,qd ?_,qd fun x hx=>?_⟩
       ·rw[List.length_append,List.map_append];exact n4
       ·rw[List.map_append,HM.out,HH.out.1,ja]
       ·have h7:=HH.out.2.2.size;have h6:=q4.size;rcases List.mem_append.1 hx with hx|hx
        ·obtain⟨r1,r2,r3⟩:=HW.out x hx;refine⟨Qw (r1.keep HH.out.2.2) q4 (fun hl p hp=>((r3 p hp).2 hl).2),r2,fun p hp=>⟨(r3 p hp).1,fun hl=>⟨by have:=((r3 p hp).2 hl).1;omega,fun e=>?_⟩⟩⟩;have e2:g4=p.block:=(by simpa[Value.ownBlock]using e);have h8:=(r3 p hp).2 hl;rcases a4 with h9|h9
         ·exact h8.2 ((show v.ownBlock=some g4 from h9).trans (by rw[e2]))
         ·have:=h8.1;omega
        ·obtain⟨r1,r2,r3⟩:=HH.out.2.1 x hx
         have hge:∀p,x.a=some p->wr.heap.size<=p.block:=fun p hp=>by
          rcases r3 with h9|h9
          ·rw[h9]at hp;cases hp;exact hg2
          ·have:=h9 p hp;have:=hB2.size;omega
         have hlt9:1<=x.l.length->∀p,x.a=some p->p.block<Y3.heap.size:=fun hl p hp=>by
          obtain⟨b9,o9,e9,h9⟩:=r1 hl;rw[hp]at e9;cases e9;exact lt_of_cell (h9 0 _ (qG (by omega)) 0 _ rfl)
         refine⟨Qw r1 q4 (fun hl p hp e=>by have:=hvl _ e;have:=hge p hp;omega),r2,fun p hp=>⟨by have:=hge p hp;have:=HB.out.size;omega,fun hl=>⟨by have:=hlt9 hl p hp;omega,fun e=>?_⟩⟩⟩;have e2:g4=p.block:=(by simpa[Value.ownBlock]using e);rcases a4 with h9|h9
         ·have:=hvl _ h9;have:=hge p hp;omega
         ·have:=hlt9 hl p hp;omega
      case measure=>simp[intOf];omega
    ·clear k0 k1 k2 k3 k4;obtain⟨a9,c9,hv,hvc,hvr⟩:∃a c,v=.slice a ws.length c/\ws.length<=c/\qi wr 1 yU a ws:=Qk HO.out;subst hv;have HV:=qd (qg hvc hvr);clear hvc hvr;go_wp2;go_ret;refine⟨a9,c9,ws,rfl,HV.out.1,?_,HV.out.2,fun x hx=>⟨(HW.out x hx).1,(HW.out x hx).2.1,.inr fun p hp=>by have:=((HW.out x hx).2.2 p hp).1;omega⟩,bcl hBw HB.out⟩;rw[HD.out.2.2.2.2.2.2.1,HM.out];exact(Jh ⟨one,two,lo,hi2⟩ _ t j (by simp only;omega)).symm
theorem Xq:∀(gs:List GrpM) (t:List Int),(∀g∈gs,0<=g.lo/\g.hi<=6)->(∀x∈t,0<=x/\x<=6)->∀u∈zO gs t,u.length=t.length+gs.length/\∀x∈u,0<=x/\x<=6
 | [],t,_,ht,u,hu=>by
   rw[zO,List.mem_singleton]at hu;subst hu;exact⟨rfl,ht⟩
 | g::gs,t,hg,ht,u,hu=>by
   rw[zO,List.mem_flatMap]at hu;obtain⟨n,hn,hu⟩:=hu
   have hb:g.lo<=n/\n<=g.hi:=by
    unfold QG at hn;obtain⟨k,hk,rfl⟩:=List.mem_map.1 hn;have:=List.mem_range.1 hk;omega
   have h0:=hg g (List.mem_cons_self ..)
   obtain⟨h1,h2⟩:=Xq gs (t++[n]) (fun x hx=>hg x (List.mem_cons_of_mem _ hx)) (fun x hx=>by
    rcases List.mem_append.1 hx with hx|hx
    ·exact ht x hx
    ·rw[List.mem_singleton]at hx;omega) u hu
   refine⟨?_,h2⟩;rw[h1,List.length_append,List.length_cons,List.length_nil,List.length_cons];omega
def qO(D:DayM):List (List Int):=(zO D.gs []).filter fun t=>yG (qD D (setOf (qy t))) D.cs
theorem qeh(t:List Int)(n:Int)(h:t.length<4):qy (t++[n])=(qy t).set t.length n:=by
 refine PastM.same fun j hj=>?_;rw[zy _ hj];by_cases e:j=t.length
 ·subst e;rw[PastM.get_set _ h,List.getD_eq_getElem?_getD,List.getElem?_append_right ql,Nat.sub_self];rfl
 ·rw[PastM.get_set_ne _ h hj e,zy _ hj,List.getD_eq_getElem?_getD,List.getD_eq_getElem?_getD];by_cases h2:j<t.length
  ·rw[List.getElem?_append_left h2]
  ·rw[List.getElem?_append_right (by omega),List.getElem?_eq_none (by rw[List.length_cons,List.length_nil];omega),List.getElem?_eq_none (by omega)]
theorem qaT:∀(gs:List GrpM) (t:List Int),t.length+gs.length<=4->(zO gs t).map qy=zC gs t.length (qy t)
 | [],_,_=>rfl
 | g::gs,t,h=>by
   rw[List.length_cons]at h;rw[zO,zC,List.map_flatMap];congr 1;funext n;rw[qaT gs (t++[n]) (by rw[List.length_append,List.length_cons,List.length_nil];omega),qeh _ _ (by omega),List.length_append,List.length_cons,List.length_nil]
theorem ym(D:DayM)(h:D.gs.length<=4):(qO D).map qy=qw D:=by
 unfold qO qw;have e:=qaT D.gs [] (by rw[List.length_nil];omega);rw[show qy []=⟨0,0,0,0⟩from rfl,List.length_nil]at e;rw[<-e,List.filter_map];rfl
def PastsOfP(D:DayM)(w:World)(e:Ending)(w':World):Prop:=∃a c ws,e=.returned (.slice a ws.length c)/\ws.length<=c/\ws.map (·.l)=qO D/\qi w' 1 yU a ws/\(∀x∈ws,qi w' 1 encI x.a x.l/\x.l.length<=x.c)/\Below w.heap.size w w'
theorem Qh(D:DayM)(w:World)(h:DayAt w D)(hs:DaySm D)(hz:checkN D=0):Calls qo 19 #[dv D] w (PastsOfP D w):=by
 have hdv:dv D=.agg #[.slice D.ta D.ts.length D.tc,.slice D.ga D.gs.length D.gc,.slice D.oa D.os.length D.oc,.slice D.ha D.hs.length D.hc,.slice D.ca D.cs.length D.cc]:=rfl;have hgl:=(qE D hz).gs;have hpa:=fun W (hB:Below w.heap.size w W)=>Jk D hz hs D.gs.length [] none 0 W (h.keep hB) (by simp) ql (qi.nil _ _ _ _) (fun _=>rfl);have hcl:=(qE D hz).cs;have HD:=qd (qg h (qg hs (qg hz hdv)));simp only[List.length_nil,hdv]at hpa⊢;have HPA:=qd hpa;clear hpa h hs hdv;obtain⟨W,hW⟩:∃W,w.alloc (Obj.cells #[.slice D.ta D.ts.length D.tc,.slice D.ga D.gs.length D.gc,.slice D.oa D.os.length D.oc,.slice D.ha D.hs.length D.hc,.slice D.ca D.cs.length D.cc] 28)=W:=⟨_,rfl⟩;have h5:B5 W w.heap.size (.slice D.ta D.ts.length D.tc) (.slice D.ga D.gs.length D.gc) (.slice D.oa D.os.length D.oc) (.slice D.ha D.hs.length D.hc) (.slice D.ca D.cs.length D.cc):=by subst hW;exact B5.new ..
 have hBW:Below w.heap.size w W:=by subst hW;go_grown
 have H5:=qd h5;obtain⟨k0,k1,k2,k3,k4⟩:=h5;obtain⟨j0,hj,hjz,hjs,hjb⟩:=info_parts Jf;have hUW:qo.underlying 45=some (.slice 31):=(qH _).trans Tryz.underlying45;go_enter (sf 19 f19),ntmps19;go_upto_region 1 with fail;try rw[hW]
 clear hW;go_upto_region 2 with(go_at_call 67;(with_reducible refine(HPA.out _ hBW).mono ?_);intro e X hP;obtain⟨a,c,ws,he,hwc,hwm,hwr,hww,hBX⟩:=hP;subst he);have hbw:=bcl hBW hBX;have hok:=Xq D.gs [] (fun g hg=>by have:=yD D hz g hg;omega) (fun x hx=>by cases hx);have hll:=yO D.gs [] (fun g hg=>by have:=yD D hz g hg;omega);rw[List.length_nil,List.drop_zero]at hwm;have hwl:=congrArg List.length hwm;rw[List.length_map]at hwl;have hpow:3 ^ D.gs.length<=81:=Nat.pow_le_pow_right (n:=3) (by decide) hgl;have hw81:ws.length<=81:=by omega
 have HX:=qd (qg hwm (qg hwr (qg hww (qg hok (qg hBX hbw)))));clear hwm hwr hww hok hll hwl hpow HPA hBX hbw k0 k1 k2 k3 k4 hz;go_wp2;go_loopw [5,4] (fun i u wr=>∃(j:Nat) (v:Value) (us:List WayM),i=.int .i64 j/\v=u/\j<=ws.length/\Hid (Below X.heap.size X wr)/\Hid (wr.ownsRow X.heap.size 31 1 v us.length (us.map wvW))/\Hid (us=(ws.take j).filter fun x=>yG (qD D (setOf (qy x.l))) D.cs)) (fun i _ _=>ws.length-(intOf i).toNat);case atStart=>exact⟨0,_,[],rfl,rfl,by omega,qd (Below.refl _ _),qd (World.ownsRow_nil _ _ _ _),qd (by simp)⟩
 case round =>
  obtain⟨j,v,us,rfl,rfl,hjl,HB,HO,HU⟩:=hrel
  have hul:us.length<=81:=by
   rw[HU.out];have:=List.length_filter_le (fun x:WayM=>yG (qD D (setOf (qy x.l))) D.cs) (ws.take j);rw[List.length_take]at this;omega
  have hBw:=bcl HX.out.2.2.2.2.2 HB.out;by_cases hlt:j<ws.length
  ·obtain⟨k0,k1,k2,k3,k4⟩:=H5.out.keep (bcl HX.out.2.2.2.2.1 HB.out);obtain⟨x,hx⟩:∃x,ws[j]? = some x:=⟨_,qG hlt⟩;have hxm:=qI hx;obtain⟨rb,ro,rfl,hRP⟩:=HX.out.2.1 (by omega);have c0:=qb _ HB.out (hRP j x hx 0 _ rfl);simp only[Nat.mul_one,Nat.add_zero]at c0;obtain⟨x1,x2,_⟩:=HX.out.2.2.1 x hxm;have hxo:=HX.out.2.2.2.1 x.l (by rw[<-HX.out.1];exact List.mem_map.2 ⟨x,hxm,rfl⟩);rw[List.length_nil,Nat.zero_add]at hxo;have hpo:=fun V (hB:Below wr.heap.size wr V)=>xx D x.l x.a x.c V (HD.out.1.keep (bcl hBw hB)) HD.out.2.1 HD.out.2.2.1 hxo.1 x2 (x1.keep (bcl HB.out hB)) (fun y hy=>by have:=hxo.2 y hy;omega);have hPl:=qK D (setOf (qy x.l));have hri:=fun(pa:Option Addr) (pc:Nat) V (hB:Below wr.heap.size wr V) (hpc:D.cs.length<=pc) (hpr:qi V 1 encI pa (qD D (setOf (qy x.l))))=>qel D (qD D (setOf (qy x.l))) pa pc V (HD.out.1.keep (bcl hBw hB)) HD.out.2.1 hPl hpc hpr
   have htk:(ws.take (j+1)).filter (fun x=>yG (qD D (setOf (qy x.l))) D.cs)=us++if yG (qD D (setOf (qy x.l))) D.cs=true then[x]else[]:=by
    obtain⟨h9,rfl⟩:=qC hx;rw[List.take_succ_eq_append_getElem h9,List.filter_append,<-HU.out];congr 1;simp only[List.filter_cons,List.filter_nil]
   generalize qD D (setOf (qy x.l))=P at *
   generalize yG P D.cs=B at *
   rw[HD.out.2.2.2]at hpo hri;have HPO:=qd hpo;have HRI:=qd hri;have HTK:=qd htk;have hj1:(j:Int)<(ws.length:Int):=(by omega);have hj2:(j:Int)<=(c:Int):=(by omega);clear hpo hri htk hPl hRP hx hxm x1 x2 hxo;go_upto_region 6 with fail;refine wp_region_held_drew (S:=(RHL [(⟨w.heap.size,0,none⟩,.slice D.ta D.ts.length D.tc),(⟨w.heap.size,1,none⟩,.slice D.ga D.gs.length D.gc),(⟨w.heap.size,2,none⟩,.slice D.oa D.os.length D.oc),(⟨w.heap.size,3,none⟩,.slice D.ha D.hs.length D.hc),(⟨w.heap.size,4,none⟩,.slice D.ca D.cs.length D.cc),(⟨rb,ro+j,none⟩,.slice x.a x.l.length x.c)] wr)) (by kernel_rfl) (by exact RHL.drew ⟨k0,k1,k2,k3,k4,c0,Below.refl _ _⟩) (fun hHeld=>?_);refine tk 0 ?_;refine tk 1 ?_;refine tk 2 ?_;refine tk 3 ?_;refine tk 4 ?_;(refine tk 5 ?_;try simp only[zs,Act.put]);refine tkR 6 fun K hK=>?_;go_simp;go_wp2_with (go_at_call 51;(with_reducible refine(HPO.out _ (RHL.bel hHeld)).mono ?_);intro e X6 hP;obtain⟨⟨pa,pc,he,hpc,hpr⟩,hB6⟩:=hP;subst he);refine hK.out _ _ (by exact RHL.call hHeld hB6) (fun hHeldN=>?_);clear hK K hHeld;have hHeld:=hHeldN;clear hHeldN;(try simp only[zs,Act.put]);have hri:=HRI.out pa pc X6 (RHL.bel hHeld) hpc hpr;refine tkR 7 fun K hK=>?_;go_simp;go_wp2_with (go_at_call 68;(with_reducible refine hri.mono ?_);rintro e X7 ⟨rfl,hB7⟩);refine hK.out _ _ (by exact RHL.call hHeld hB7) (fun hHeldN=>?_);clear hK K hHeld;have hHeld:=hHeldN;clear hHeldN;(try simp only[zs,Act.put]);refine wpAnyH_done (by kernel_rfl) ?_ _;(try simp only[zs,Act.put]);have hB4:=RHL.bel hHeld
   replace c0:=qb _ hB4 c0;have HO7:=qd (zf HO.out hB4);have HB7:=qd (bcl HB.out hB4);clear hHeld k0 k1 k2 k3 k4 hri hpr hpc hB6 hB7 hB4 HPO HRI hBw
   cases B with
   | false =>
     go_wp2;go_roundw;(case rel=>exact⟨j+1,v,us,rfl,rfl,by omega,HB7,HO7,qd (by rw[HTK.out];simp)⟩);case measure=>simp[intOf];omega
   | true =>
     go_wp2_with (at_builtin;refine wpList_append_own_at _ rfl (.tmp 22) (.tmp 27) 45 rfl X.heap.size 31 j0 (.slice none 0 0) 1 24 hUW hj hjz hjs hjb rfl (by decide) _ _ _ rfl (HO7.out.alloc _) ⟨X7.heap.size,0,none⟩ 1 1 [wvW x] rfl rfl (cell_one_new _ _ _) (qcy x) (by unfold maxLen;omega) (by omega) (by have h9:X.heap.size<=X7.heap.size:=HB7.out.size;simp;omega) ?_;intro v1 w3 n1 y1 nil1 at1);have y2:(X7.alloc (.cells #[wvW x] 31)).grownBy w3 v.ownBlock:=y1;have hB3:=HB7.out.trans (((Mod.below ((Below.refl _ X7).alloc ql _)).trans (Mod.grown (S:=fun b=>v.ownBlock=some b) y2 (fun b e=>e))).keep HB7.out.size (fun b hb=>(HO7.out.lt b hb).1));go_roundw
     case rel =>
      refine⟨j+1,v1,us++[x],rfl,rfl,by omega,qd hB3,qd ?_,qd (by rw[HTK.out];simp)⟩;rw[List.length_append,List.map_append];exact n1
     case measure=>simp[intOf];omega
  ·obtain rfl:j=ws.length:=(by omega);obtain⟨a9,c9,hv,hvc,hvr⟩:∃a c,v=.slice a us.length c/\us.length<=c/\qi wr 1 yU a us:=Qk HO.out;subst hv;have HV:=qd (qg hvc (qg hvr hBw));clear hvc hvr hBw;go_wp2;go_ret;have hu:=HU.out;rw[List.take_length]at hu;refine⟨a9,c9,us,rfl,HV.out.1,?_,HV.out.2.1,fun x hx=>?_,HV.out.2.2⟩
   ·rw[hu];unfold qO;rw[<-HX.out.1,List.filter_map];rfl
   ·have hm:x∈ws:=(by rw[hu]at hx;exact(List.mem_filter.1 hx).1);obtain⟨x1,x2,_⟩:=HX.out.2.2.1 x hm;exact⟨x1.keep HB.out,x2⟩
theorem xq(D:DayM)(h:D.gs.length<=4):(qO D).length=(qw D).length:=by rw[<-ym D h,List.length_map]
def qai(D:DayM)(al:Int)(w:World)(e:Ending)(w':World):Prop :=
 Below w.heap.size w w'/\((qZ D al≠0/\e=.returned (.tuple #[.slice none 0 0,.int .i64 (qZ D al)])) \/
 (qZ D al=0/\∃a c ws,e=.returned (.tuple #[.slice a ws.length c,.int .i64 0])/\0<ws.length/\ws.length<=c/\ws.map (·.l)=qO D/\qi w' 1 yU a ws/\∀x∈ws,qi w' 1 encI x.a x.l/\x.l.length<=x.c))
theorem jD(D:DayM)(is:Bool)(b:Int)(w:World)(h:DayAt w D)(hs:DaySm D)(hb:is=false->b≠0):Calls qo 49 #[dv D,.bool is,.int .i64 b] w (qai D (if is=true then 0 else b) w):=by
 have hdv:dv D=.agg #[.slice D.ta D.ts.length D.tc,.slice D.ga D.gs.length D.gc,.slice D.oa D.os.length D.oc,.slice D.ha D.hs.length D.hc,.slice D.ca D.cs.length D.cc]:=rfl;have hck:=fun W (hB:Below w.heap.size w W)=>yB D W (h.keep hB) hs;have hpo:=fun(hz:checkN D=0) W (hB:Below w.heap.size w W)=>Qh D W (h.keep hB) hs hz;have hll:checkN D=0->(qO D).length=(qw D).length:=fun hz=>xq D (qE D hz).gs;obtain⟨A,hA⟩:∃A,qZ D (if is=true then 0 else b)=A:=⟨_,rfl⟩
 have hP:qai D (if is=true then 0 else b) w=fun e w'=>Below w.heap.size w w'/\((A≠0/\e=.returned (.tuple #[.slice none 0 0,.int .i64 A]))\/(A=0/\∃a c ws,e=.returned (.tuple #[.slice a ws.length c,.int .i64 0])/\0<ws.length/\ws.length<=c/\ws.map (·.l)=qO D/\qi w' 1 yU a ws/\∀x∈ws,qi w' 1 encI x.a x.l/\x.l.length<=x.c)):=by
  funext e w';unfold qai;rw[hA]
 rw[hP];unfold qZ at hA;rw[hdv]at hck hpo⊢
 generalize checkN D=C at *
 have HCK:=qd hck;have HPO:=qd hpo;have HLL:=qd hll;have HA:=qd hA;clear hck hpo hll h hs hdv hP hA;obtain⟨W,hW⟩:∃W,w.alloc (Obj.cells #[.slice D.ta D.ts.length D.tc,.slice D.ga D.gs.length D.gc,.slice D.oa D.os.length D.oc,.slice D.ha D.hs.length D.hc,.slice D.ca D.cs.length D.cc] 28)=W:=⟨_,rfl⟩;have h5:B5 W w.heap.size (.slice D.ta D.ts.length D.tc) (.slice D.ga D.gs.length D.gc) (.slice D.oa D.os.length D.oc) (.slice D.ha D.hs.length D.hc) (.slice D.ca D.cs.length D.cc):=by subst hW;exact B5.new ..
 have hBW:Below w.heap.size w W:=by subst hW;go_grown
 obtain⟨k0,k1,k2,k3,k4⟩:=h5;go_enter (sf 49 f49),ntmps49;go_upto_region 1 with fail;try rw[hW]
 clear hW;go_upto_region 2 with(go_at_call 26;(with_reducible refine(HCK.out _ hBW).mono ?_);rintro e W1 ⟨rfl,hB1⟩;replace k0:=qb _ hB1 k0;replace k1:=qb _ hB1 k1;replace k2:=qb _ hB1 k2;replace k3:=qb _ hB1 k3;replace k4:=qb _ hB1 k4);have hB2:=bcl hBW hB1;by_cases hC:C=0;rotate_left 1
 ·have hne:(C != 0)=true:=by simpa using hC
  go_wp2
  go_ret2
  exact⟨hB2,.inl (by have e:=HA.out;rw[if_pos hC]at e;rw[<-e];exact⟨hC,rfl⟩)⟩
 subst hC
 cases is with
 | false =>
   have hb0:=hb rfl;go_wp2
   go_ret2
   exact⟨hB2,.inl (by have e:=HA.out;simp[hb0]at e;rw[<-e];exact⟨hb0,rfl⟩)⟩
 | true =>
   go_upto_region 7 with(go_at_call 19;(with_reducible refine(HPO.out rfl _ hB2).mono ?_);intro e W2 hP;obtain⟨a,c,ws,he,hwc,hwm,hwr,hww,hB3⟩:=hP;subst he);have hB4:=bcl hB2 hB3;have hl:=congrArg List.length hwm;rw[List.length_map,HLL.out (by first|rfl|trivial)]at hl;have HX:=qd (qg hwm (qg hwr hww));have HL:=qd hl;clear hwm hwr hww hl;by_cases hn:ws.length=0
   ·have hne:((ws.length:Int)==0)=true:=(by simpa using hn);have HN:=qd hn;clear hn;go_wp2
    go_ret2
    exact⟨hB4,.inl (by have e:=HA.out;simp[<-HL.out,HN.out]at e;rw[<-e];exact⟨by decide,rfl⟩)⟩
   ·have hne:((ws.length:Int)==0)=false:=beq_eq_false_iff_ne.2 (by omega);go_wp2
    go_ret2
    exact⟨hB4,.inr ⟨by have e:=HA.out;simp[<-HL.out,hn]at e;exact e.symm,a,c,ws,rfl,by omega,hwc,HX.out⟩⟩
theorem qcc(D:DayM)(l:List Int)(la:Option Addr)(lc:Nat)(w:World)(h:DayAt w D)(hs:DaySm D)(hz:checkN D=0)(hll:l.length=D.gs.length)(hlc:l.length<=lc)(hl:qi w 1 encI la l)(hlp:∀x∈l,0<=x/\x<=100) :
 Calls qo 66 #[dv D,.slice la l.length lc] w fun e w'=>e=.returned (.int .i64 (jb D (setOf (qy l))))/\Below w.heap.size w w':=by
 have hdv:dv D=.agg #[.slice D.ta D.ts.length D.tc,.slice D.ga D.gs.length D.gc,.slice D.oa D.os.length D.oc,.slice D.ha D.hs.length D.hc,.slice D.ca D.cs.length D.cc]:=rfl;have hpl:=fun W (hB:Below w.heap.size w W)=>xx D l la lc W (h.keep hB) hs hz hll hlc (hl.keep hB) hlp;have hPl:=qK D (setOf (qy l));have hcl:=(qE D hz).cs;unfold jb
 generalize qD D (setOf (qy l))=P at *
 obtain⟨R,hR⟩:∃R,((P.countP fun k=>k == -1:Nat):Int)=R:=⟨_,rfl⟩;rw[hR];rw[hdv]at hpl⊢;have HPL:=qd hpl;have HP:=qd hPl;have HR:=qd hR;clear h hs hz hll hl hlp hdv hpl hPl hR;obtain⟨W,hW⟩:∃W,w.alloc (Obj.cells #[.slice D.ta D.ts.length D.tc,.slice D.ga D.gs.length D.gc,.slice D.oa D.os.length D.oc,.slice D.ha D.hs.length D.hc,.slice D.ca D.cs.length D.cc] 28)=W:=⟨_,rfl⟩;have h5:B5 W w.heap.size (.slice D.ta D.ts.length D.tc) (.slice D.ga D.gs.length D.gc) (.slice D.oa D.os.length D.oc) (.slice D.ha D.hs.length D.hc) (.slice D.ca D.cs.length D.cc):=by subst hW;exact B5.new ..
 have hBW:Below w.heap.size w W:=by subst hW;go_grown
 obtain⟨k0,k1,k2,k3,k4⟩:=h5;go_enter (sf 66 f66),ntmps66;go_upto_region 1 with fail;try rw[hW]
 clear hW;go_upto_region 2 with(go_at_call 51;(with_reducible refine(HPL.out _ hBW).mono ?_);intro e X hP;obtain⟨⟨a,c,he,hc,hr⟩,hB1⟩:=hP;subst he);have hB2:=bcl hBW hB1;have HX:=qd hr;clear hr hB1 hBW k0 k1 k2 k3 k4 HPL;go_wp2;go_loopw [7,6] (fun i q wr=>∃(k:Nat) (m:Int),i=.int .i64 k/\q=.int .i64 m/\k<=D.cs.length/\0<=m/\m<=k/\wr=X/\Hid (m+((P.drop k).countP fun k=>k == -1:Nat)=R)) (fun i _ _=>D.cs.length-(intOf i).toNat);case atStart=>exact⟨0,0,rfl,rfl,by omega,by omega,by omega,rfl,qd (by rw[<-HR.out];simp)⟩
 case round =>
  obtain⟨k,m,rfl,rfl,hk,hm0,hm1,rfl,HN⟩:=hrel;by_cases hlt:k<D.cs.length
  ·obtain⟨x,hx⟩:∃x,P[k]? = some x:=⟨_,qG (by rw[HP.out];exact hlt)⟩;obtain⟨b,o,rfl,hQ⟩:=HX.out (by rw[HP.out];omega);have c0:=hQ k x hx 0 _ rfl;simp only[Nat.mul_one,Nat.add_zero]at c0;have hk1:(k:Int)<(D.cs.length:Int):=(by omega);have hk2:(k:Int)<=(c:Int):=(by omega);have hN:=HN.out;rw[QQ _ hx]at hN;have hwr:wrap64 (m+1)=m+1:=wrap_small (by omega) (by omega);have HN2:=qd hN;clear hQ hx hN;by_cases e1:x=-1
   ·have g1:(x == -1)=true:=(by simp[e1]);go_wp2;go_roundw;(case rel=>exact⟨k+1,m+1,rfl,rfl,by omega,by clear hwr;omega,by clear hwr;omega,(by first|rfl|trivial),qd (by have e:=HN2.out;rw[if_pos g1]at e;clear hwr;omega)⟩);case measure=>simp[intOf];omega
   ·have g1:(x == -1)=false:=(by simpa using e1);go_wp2;go_roundw;(case rel=>exact⟨k+1,m,rfl,rfl,by omega,by clear hwr;omega,by clear hwr;omega,(by first|rfl|trivial),qd (by have e:=HN2.out;rw[if_neg (by simpa using e1)]at e;clear hwr;omega)⟩);case measure=>simp[intOf];omega
  ·obtain rfl:k=D.cs.length:=(by omega);have hN:=HN.out;rw[List.drop_eq_nil_of_le (by rw[HP.out];exact ql),List.countP_nil]at hN;have hN2:m=R:=(by simpa using hN);subst hN2;clear hN HN;go_wp2;go_ret;exact⟨rfl,hB2⟩
theorem ZY{D:DayM}(hz:checkN D=0):∀u∈qO D,u.length=D.gs.length/\∀x∈u,0<=x/\x<=6:=fun u hu=>by
 have h:=Xq D.gs [] (fun g hg=>by have:=yD D hz g hg;omega) (fun x hx=>by cases hx) u (List.mem_filter.1 hu).1;rwa[List.length_nil,Nat.zero_add]at h
def qdx(D:DayM)(w:World)(ws:List WayM):Prop:=∀x∈ws,qi w 1 encI x.a x.l/\x.l.length<=x.c/\x.l.length=D.gs.length/\∀y∈x.l,0<=y/\y<=6
theorem qdx.keep{D:DayM}{w w1:World}{ws:List WayM}(h:qdx D w ws)(hB:Below w.heap.size w w1):qdx D w1 ws:=fun x hx=>⟨(h x hx).1.keep hB,(h x hx).2⟩
theorem qdx.of{D:DayM}(hz:checkN D=0){w:World}{ws:List WayM}(hm:ws.map (·.l)=qO D)(h:∀x∈ws,qi w 1 encI x.a x.l/\x.l.length<=x.c):qdx D w ws:=fun x hx =>
 have h9:=ZY hz x.l (by rw[<-hm];exact List.mem_map.2 ⟨x,hx,rfl⟩)
 ⟨(h x hx).1,(h x hx).2,h9.1,h9.2⟩
def qag(D:DayM)(k:Nat)(x:WayM):Int:=(qD D (setOf (qy x.l))).getD k 0
theorem did_at{D:DayM}{k:Nat}(hk:k<D.cs.length)(x:WayM):(qD D (setOf (qy x.l)))[k]? = some (qag D k x):=by
 unfold qag;rw[List.getD_eq_getElem?_getD,qG (by rw[qK];exact hk)];rfl
theorem qbJ{l:List WayM}{k:Nat}{x:WayM}(p:WayM->Bool)(h:l[k]? = some x):(l.drop k).countP p=(if p x=true then 1 else 0)+(l.drop (k+1)).countP p:=by
 obtain⟨hk,rfl⟩:=qC h;rw[List.drop_eq_getElem_cons hk,List.countP_cons];omega
theorem XO(D:DayM)(ws:List WayM)(wa:Option Addr)(wc:Nat)(k:Nat)(w:World)(h:DayAt w D)(hs:DaySm D)(hz:checkN D=0)(hwl:ws.length<=81/\ws.length<=wc)(hwr:qi w 1 yU wa ws)(hws:qdx D w ws)(hk:k<D.cs.length) :
 Calls qo 54 #[dv D,.slice wa ws.length wc,.int .i64 k] w fun e w'=>e=.returned (.int .i64 ((ws.countP fun x=>qag D k x == -1:Nat):Int))/\Below w.heap.size w w':=by
 have hdv:dv D=.agg #[.slice D.ta D.ts.length D.tc,.slice D.ga D.gs.length D.gc,.slice D.oa D.os.length D.oc,.slice D.ha D.hs.length D.hc,.slice D.ca D.cs.length D.cc]:=rfl;obtain⟨R,hR⟩:∃R,((ws.countP fun x=>qag D k x == -1:Nat):Int)=R:=⟨_,rfl⟩;rw[hR,hdv];have hcl:=(qE D hz).cs;have hpo:=fun(x:WayM) (hx:x∈ws) V (hB:Below w.heap.size w V)=>xx D x.l x.a x.c V (h.keep hB) hs hz (hws x hx).2.2.1 (hws x hx).2.1 ((hws x hx).1.keep hB) (fun y hy=>by have:=(hws x hx).2.2.2 y hy;omega);simp only[hdv]at hpo;have HPO:=qd hpo;have HWR:=qd hwr;have HR:Hid ((0:Int)+((ws.drop 0).countP fun x=>qag D k x == -1:Nat)=R):=qd (by rw[List.drop_zero,Int.zero_add];exact hR);have HDA:=qd fun x=>did_at hk x;have hk0:(0:Int)<=(k:Int):=Int.natCast_nonneg k;have hk1:(k:Int)<(D.cs.length:Int):=by omega
 clear h hs hz hwr hws hdv hpo hR;obtain⟨W,hW⟩:∃W,w.alloc (Obj.cells #[.slice D.ta D.ts.length D.tc,.slice D.ga D.gs.length D.gc,.slice D.oa D.os.length D.oc,.slice D.ha D.hs.length D.hc,.slice D.ca D.cs.length D.cc] 28)=W:=⟨_,rfl⟩;have h5:B5 W w.heap.size (.slice D.ta D.ts.length D.tc) (.slice D.ga D.gs.length D.gc) (.slice D.oa D.os.length D.oc) (.slice D.ha D.hs.length D.hc) (.slice D.ca D.cs.length D.cc):=by subst hW;exact B5.new ..
 have hBW:Below w.heap.size w W:=by subst hW;go_grown
 have H5:=qd h5;clear h5;go_enter (sf 54 f54),ntmps54;go_upto_region 1 with fail;try rw[hW]
 clear hW;go_wp2;go_loopw [8,7] (fun i q wr=>∃(j:Nat) (m:Int),i=.int .i64 j/\q=.int .i64 m/\j<=ws.length/\0<=m/\m<=j/\Below W.heap.size W wr/\Hid (m+((ws.drop j).countP fun x=>qag D k x == -1:Nat)=R)) (fun i _ _=>ws.length-(intOf i).toNat);case atStart=>exact⟨0,0,rfl,rfl,by omega,by omega,by omega,Below.refl _ _,HR⟩
 case round =>
  obtain⟨j,m,rfl,rfl,hj,hm0,hm1,hBr,HN⟩:=hrel;have hBw:=bcl hBW hBr;by_cases hlt:j<ws.length
  ·obtain⟨k0,k1,k2,k3,k4⟩:=H5.out.keep hBr;obtain⟨x,hx⟩:∃x,ws[j]? = some x:=⟨_,qG hlt⟩;obtain⟨b,o,rfl,hP⟩:=HWR.out (by omega);have c0:=qb _ hBw (hP j x hx 0 _ rfl);simp only[Nat.mul_one,Nat.add_zero]at c0;have hj1:(j:Int)<(ws.length:Int):=(by omega);have hj2:(j:Int)<=(wc:Int):=(by omega);have HC:=qd (HPO.out x (qI hx));have hN:=HN.out;rw[qbJ _ hx]at hN;have hda:=HDA.out x
   generalize qag D k x=dn at *
   generalize qD D (setOf (qy x.l))=P at *
   have HN2:=qd hN;have HDN:=qd hda;clear hP hx hN hda;go_upto_region 5 with fail;refine wp_region_held_drew (S:=(RHL [(⟨w.heap.size,0,none⟩,.slice D.ta D.ts.length D.tc),(⟨w.heap.size,1,none⟩,.slice D.ga D.gs.length D.gc),(⟨w.heap.size,2,none⟩,.slice D.oa D.os.length D.oc),(⟨w.heap.size,3,none⟩,.slice D.ha D.hs.length D.hc),(⟨w.heap.size,4,none⟩,.slice D.ca D.cs.length D.cc),(⟨b,o+j,none⟩,.slice x.a x.l.length x.c)] wr)) (by kernel_rfl) (by exact RHL.drew ⟨k0,k1,k2,k3,k4,c0,Below.refl _ _⟩) (fun hHeld=>?_);refine tk 0 ?_;refine tk 1 ?_;refine tk 2 ?_;refine tk 3 ?_;refine tk 4 ?_;(refine tk 6 ?_;try simp only[zs,Act.put]);refine tkR 5 fun K hK=>?_;go_simp;go_wp2_with (go_at_call 51;(with_reducible refine(HC.out _ (bcl hBw (RHL.bel hHeld))).mono ?_);intro e X5 hP;obtain⟨⟨pa,pc,he,hpc,hpr⟩,hB5⟩:=hP;subst he);refine hK.out _ _ (by exact RHL.call hHeld hB5) (fun hHeldN=>?_);clear hK K hHeld;have hHeld:=hHeldN;clear hHeldN;(try simp only[zs,Act.put]);obtain⟨pb,po,rfl,hQ⟩:=hpr (by have:=(qC HDN.out).1;omega);have q0:=hQ k _ HDN.out 0 _ rfl;simp only[Nat.mul_one,Nat.add_zero]at q0;have hkp:(k:Int)<=(pc:Int):=(by omega);clear hQ;(refine tk 7 ?_;try simp only[zs,Act.put]);(refine tkR 8 fun K hK=>?_;go_simp;refine hK.out _ _ (by exact hHeld) (fun hHeldN=>?_);clear hK K hHeld;have hHeld:=hHeldN;clear hHeldN;try simp only[zs,Act.put]);(refine tk 9 ?_;try simp only[zs,Act.put]);refine wpAnyH_done (by kernel_rfl) ?_ _;(try simp only[zs,Act.put]);have hB4:=RHL.bel hHeld;have hBr4:=bcl hBr hB4;have hwr:wrap64 (m+1)=m+1:=wrap_small (by omega) (by omega)
   clear hHeld k0 k1 k2 k3 k4 c0 q0 hB5 hB4 HC;by_cases e1:dn=-1
   ·have g1:(dn == -1)=true:=(by simp[e1]);go_wp2;go_roundw;(case rel=>exact⟨j+1,m+1,rfl,rfl,by omega,by clear hwr;omega,by clear hwr;omega,hBr4,qd (by have e:=HN2.out;rw[if_pos g1]at e;clear hwr;omega)⟩);case measure=>simp[intOf];omega
   ·have g1:(dn == -1)=false:=(by simpa using e1);go_wp2;go_roundw;(case rel=>exact⟨j+1,m,rfl,rfl,by omega,by clear hwr;omega,by clear hwr;omega,hBr4,qd (by have e:=HN2.out;rw[if_neg (by simpa using e1)]at e;clear hwr;omega)⟩);case measure=>simp[intOf];omega
  ·obtain rfl:j=ws.length:=(by omega);have hN:=HN.out;rw[List.drop_eq_nil_of_le ql,List.countP_nil]at hN;have hN2:m=R:=(by simpa using hN);subst hN2;clear hN HN;go_wp2;go_ret;exact⟨rfl,hBw⟩
theorem Say_any(a b:Int)(w:World):Calls qo 53 #[.int .i64 a,.int .i64 b] w fun e w'=>e=.returned (.int .i64 (if a=0 then 2 else if a=b then 1 else 0))/\w=w':=by
 by_cases h1:a=0
 ·have g1:(a==0)=true:=by simp[h1]
  go_enter (sf 53 f53),ntmps53;go_wp2;go_ret;exact⟨rfl,rfl⟩
 ·have g1:(a==0)=false:=by simpa using h1
  by_cases h2:a=b
  ·have g2:(a==b)=true:=(by simp[h2]);go_enter (sf 53 f53),ntmps53;go_wp2;go_ret;exact⟨rfl,rfl⟩
  ·have g2:(a==b)=false:=(by simpa using h2);go_enter (sf 53 f53),ntmps53;go_wp2;go_ret;exact⟨rfl,rfl⟩
end Go.Proofs.Tryz
