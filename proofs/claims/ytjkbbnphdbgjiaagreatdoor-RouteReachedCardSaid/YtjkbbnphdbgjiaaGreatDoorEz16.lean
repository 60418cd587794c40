/-
  Lemmas about the program and the machine (AP2 to D34), upon which the last text of this claim rests; no condition.
-/
import Derived.Test.YtjkbbnphdbgjiaaGreatDoorEz15
set_option linter.unusedSimpArgs false
set_option linter.unusedVariables false
set_option maxRecDepth 100000
set_option maxHeartbeats 4000000
namespace Go.Proofs.Tryz
open Go Go.Load Go.LoadR Go.RowKit
theorem flat_int(l:List Int):l.flatMap encI=l.map (.int .i64):=by
 induction l with
 | nil=>rfl
 | cons x l ih=>rw[List.flatMap_cons,ih];rfl
theorem jV{w:World}{ops:Array Oper}{o:Oper}{b:Act}{K:Act->World->Prop}{Q:Exit->Act->World->Prop}{E:Prop}(hgd:o.guard=none)(s x:Operand)(ho:o.op=.call { callee:=.builtin .append,args:=#[s,x],argTypes:=#[31,31] })(l:List Int)(a:Option Addr)(c n:Nat)(hn:l.length=n)(hln:n<=20)(hnc:a=none->c=0)(base b0:Nat)(hown:w.ownsRow base 3 1 (.slice (some ⟨b0,0,none⟩) 0 0) 0 [])(hbase:base<=w.heap.size)(hs:b.eval s=.slice (some ⟨b0,0,none⟩) 0 0)(hx:b.eval x=.slice a n c)(hr:qi w 1 encI a l)
 (h:∀g cap w',w'.ownsRow base 3 1 (.slice (some ⟨g,0,none⟩) n cap) n (l.map (.int .i64))->Qt w w'->w.grownBy w' (some b0)->K (b.put o.dst (.slice (some ⟨g,0,none⟩) n cap)) w'):if Region.wanted o (yielded ops b.tmps)=true then Oper.wp qp o b w K Q else E:=by
 have hw:Region.wanted o (yielded ops b.tmps)=true:=by simp[Region.wanted,hgd]
 rw[if_pos hw];obtain⟨i0,hi,hiz,his,hib⟩:=info_parts xH;have hU:qp.underlying 31=some (.slice 3):=(qF _).trans Tryz.underlying31
 cases a with
 | none =>
   obtain rfl:c=0:=hnc rfl
   have hl:l=[]:=by
    cases l with
    | nil=>rfl
    | cons y l=>obtain⟨_,_,e,_⟩:=hr (by simp);cases e
   subst hl;obtain rfl:0=n:=hn;have hrun:=run_append_owned_none (P:=qp) (w:=w) base 31 o.type 3 i0 1 hU hi _ 0 [] hown;unfold Oper.wp;simp[execOp,ho,resolve,invoke,builtin,hs,hx,hrun,Result.andThen];exact h b0 0 w hown (Qt.refl w) ⟨rfl,rfl,rfl,ql,fun _ _ _=>rfl⟩
 | some ad =>
   refine wp_append_own w s x 31 ho base 3 i0 (.int .i64 0) 1 8 hU hi hiz his hib rfl (by decide) _ 0 [] hs hown ad n c (l.flatMap encI) hx (by rw[yS (k:=1) (fun _=>rfl),hn]) (fun j u hu=>xE (k:=1) (fun _=>rfl) (by decide) hr j u hu) (qfu l) (by unfold maxLen;omega) (by omega) hbase ?_;intro v1 w3 hown1 hgrow1 hnil1;rw[List.nil_append,Nat.zero_add,flat_int]at hown1;obtain⟨hl,⟨h1,h2⟩|⟨g,cap,cur,rfl,_⟩⟩:=hown1
   ·have:=(hnil1.1 h1).1;cases this
   ·exact h g cap w3 ⟨hl,.inr ⟨g,cap,cur,rfl,by assumption⟩⟩ (ckept_of hown hgrow1) hgrow1
def xh:List GrpM->List Int->List (List Int)
 | [],t=>[t]
 | g::gs,t=>(Qw g.lo g.hi).flatMap fun n=>xh gs (t++[n])
def jT(g:GrpM)(gs:List GrpM)(t:List Int)(j:Nat):List (List Int):=(List.range j).flatMap fun(k:Nat)=>xh gs (t++[g.lo+(k:Int)])
theorem xK(g:GrpM)(gs:List GrpM)(t:List Int)(j:Nat):jT g gs t (j+1)=jT g gs t j++xh gs (t++[g.lo+(j:Int)]):=by
 unfold jT;rw[List.range_succ,List.flatMap_append];simp
theorem XM(g:GrpM)(gs:List GrpM)(t:List Int)(j:Nat)(h:g.lo+(j:Int)=g.hi+1):xh (g::gs) t=jT g gs t j:=by
 unfold xh jT Qw;rw[List.flatMap_map,show(g.hi-g.lo+1).toNat=j by omega]
theorem ZG:∀(gs:List GrpM) (t:List Int),(∀g∈gs,g.lo<=g.hi/\g.hi-g.lo<3)->1<=(xh gs t).length/\(xh gs t).length<=3 ^ gs.length
 | [],_,_=>by simp[xh]
 | g::gs,t,h=>by
   have hg:=h g (List.mem_cons_self ..);have ih:=fun t=>ZG gs t fun x hx=>h x (List.mem_cons_of_mem _ hx);obtain⟨j,hj⟩:∃j:Nat,g.lo+(j:Int)=g.hi+1:=⟨(g.hi+1-g.lo).toNat,by omega⟩;rw[XM g gs t j hj,List.length_cons,Nat.pow_succ]
   have H:∀j,(jT g gs t j).length<=j*3 ^ gs.length/\(1<=j->1<=(jT g gs t j).length):=by
    intro j
    induction j with
    | zero=>simp[jT]
    | succ j ih2 =>
      have h1:=ih (t++[g.lo+(j:Int)]);rw[xK,List.length_append,Nat.add_mul];omega
   have:=H j;have hj3:j<=3:=(by omega);have hm:=Nat.mul_le_mul_right (3 ^ gs.length) hj3;exact⟨this.2 (by omega),by omega⟩
theorem XK:(qp.info? 31).map (fun i=>(i.zero,i.size,i.bytes))=some (some (.slice none 0 0),1,24):=by kernel_rfl
theorem Qj(g:GrpM)(gs:List GrpM)(t:List Int)(h:∀u,(xh gs u).length<=27):∀j,(jT g gs t j).length<=j*27
 | 0=>by simp[jT]
 | j+1=>by
   rw[xK,List.length_append];have:=Qj g gs t h j;have:=h (t++[g.lo+(j:Int)]);omega
theorem Jk(l:List WayM):l.flatMap xu=l.map wvW:=by
 induction l with
 | nil=>rfl
 | cons x l ih=>rw[List.flatMap_cons,ih];rfl
theorem JH(l:List WayM):∀u∈l.map wvW,u.oneCell'=true:=fun u hu=>by
 obtain⟨x,_,rfl⟩:=List.mem_map.1 hu;rfl
theorem Qm{w w1:World}{r:Option Nat}{a:Option Addr}{l:List Int}(h:qi w 1 encI a l)(hg:w.grownBy w1 r)(hn:1<=l.length->∀p,a=some p->r≠some p.block):qi w1 1 encI a l:=fun hl=>by
 obtain⟨b,o,e,h⟩:=h hl;exact⟨b,o,e,fun i x hx j v hv=>hg.cell (h i x hx j v hv) (fun e9=>hn hl _ e e9.symm)⟩
def WaysIn(w:World)(B:Nat)(ta:Option Addr)(ws:List WayM):Prop:=∀x∈ws,qi w 1 encI x.a x.l/\x.l.length<=x.c/\(x.a=ta\/∀p,x.a=some p->B<=p.block)
def PastsP(D:DayM)(t:List Int)(ta:Option Addr)(w:World)(e:Ending)(w':World):Prop:=∃a c ws,e=.returned (.slice a ws.length c)/\ws.length<=c/\ws.map (·.l)=xh (D.gs.drop t.length) t/\qi w' 1 xu a ws/\WaysIn w' w.heap.size ta ws/\Below w.heap.size w w'
theorem XP(D:DayM)(hz:checkN D=0)(hs:DaySm D):∀(m:Nat) (t:List Int) (ta:Option Addr) (tc:Nat) (w:World),DayAt w D->t.length+m=D.gs.length->t.length<=tc->qi w 1 encI ta t->(ta=none->tc=0)->Calls qp 67 #[dv D,.slice ta t.length tc] w (PastsP D t ta w)
 | 0,t,ta,tc,w,h,hl,hlc,hr,hn=>by
   have hdv:dv D=.agg #[.slice D.ta D.ts.length D.tc,.slice D.ga D.gs.length D.gc,.slice D.oa D.os.length D.oc,.slice D.ha D.hs.length D.hc,.slice D.ca D.cs.length D.cc]:=rfl;rw[hdv];have hgl:=hs.gs;have HP:=qd (qg hl (qg hlc hr));have hne:((t.length:Int)==(D.gs.length:Int))=true:=beq_iff_eq.2 (by omega);obtain⟨W,hW⟩:∃W,w.alloc (Obj.cells #[.slice D.ta D.ts.length D.tc,.slice D.ga D.gs.length D.gc,.slice D.oa D.os.length D.oc,.slice D.ha D.hs.length D.hc,.slice D.ca D.cs.length D.cc] 28)=W:=⟨_,rfl⟩;have k1:W.cell? ⟨w.heap.size,1,none⟩=some (.slice D.ga D.gs.length D.gc):=(by subst hW;go_cell);have hBW:Below w.heap.size w W:=(by subst hW;go_grown);clear h hl hlc hr hn hdv;go_enter (sf 67 f67),ntmps67;go_upto_region 1 with fail;(try rw[hW]);clear hW;go_wp2;go_ret
   have hr2:qi (W.alloc (Obj.cells #[.slice ta t.length tc] 31)) 1 xu (some ⟨W.heap.size,0,none⟩) [⟨t,ta,tc⟩]:=fun _=>⟨_,0,rfl,fun i x hx j v hv=>by
    have hi:i=0:=(by have:=(qB hx).1;simp at this;omega);subst hi;simp only[List.getElem?_cons_zero,Option.some.injEq]at hx;subst hx;have hj:j=0:=(by have:=(qB hv).1;simp[xu]at this;omega);subst hj;have hv2:v=.slice ta t.length tc:=(by simpa[xu]using hv.symm);subst hv2;show(W.alloc _).cell? ⟨W.heap.size,0,none⟩=_
    go_cell⟩
   refine⟨_,1,[⟨t,ta,tc⟩],rfl,ql,?_,hr2,fun x hx=>?_,bcl hBW ((Below.refl _ W).alloc ql _)⟩
   ·rw[List.drop_eq_nil_of_le (by have:=HP.out.1;omega)];rfl
   ·rw[List.mem_singleton]at hx;subst hx;exact⟨HP.out.2.2.keep (bcl hBW ((Below.refl _ W).alloc ql _)),HP.out.2.1,.inl rfl⟩
 | m+1,t,ta,tc,w,h,hl,hlc,hr,hn=>by
   have hih:=XP D hz hs m;have hdv:dv D=.agg #[.slice D.ta D.ts.length D.tc,.slice D.ga D.gs.length D.gc,.slice D.oa D.os.length D.oc,.slice D.ha D.hs.length D.hc,.slice D.ca D.cs.length D.cc]:=rfl;have hgl:=(qY D hz).gs;have hgc:=hs.gs.2;have hlt:t.length<D.gs.length:=(by omega);obtain⟨g,hg⟩:∃g,D.gs[t.length]? = some g:=⟨_,qM hlt⟩;have hgo:=xG D hz g (qI hg)
   have hdr:D.gs.drop t.length=g::D.gs.drop (t.length+1):=by
    obtain⟨h1,rfl⟩:=qB hg;exact List.drop_eq_getElem_cons h1
   obtain⟨b,o,hga,hGP⟩:=h.gs (by omega);have s2:=hGP t.length g hg 2 _ rfl;have s3:=hGP t.length g hg 3 _ rfl;have hne:((t.length:Int)==(D.gs.length:Int))=false:=beq_eq_false_iff_ne.2 (by omega);have hk1:(t.length:Int)<(D.gs.length:Int):=(by omega);have hk2:(t.length:Int)<=(D.gc:Int):=(by omega);have hk0:(0:Int)<=(t.length:Int):=Int.natCast_nonneg _;have hplen:=fun u=>ZG (D.gs.drop (t.length+1)) u (fun x hx=>by have:=xG D hz x (List.mem_of_mem_drop hx);omega)
   have hpow:3 ^ (D.gs.drop (t.length+1)).length<=27:=by
    have h9:(D.gs.drop (t.length+1)).length<=3:=(by rw[List.length_drop];omega);exact Nat.pow_le_pow_right (by decide) h9
   have htl:t.length<=20:=(by omega);have HD:=qd (qg h (qg hl (qg hlc (qg hr (qg hn (qg hdv (qg hdr (qg hih (qg hplen hpow)))))))));rw[hdv];clear h hl hlc hr hn hdv hih hGP hg hdr hplen hpow;obtain⟨W,hW⟩:∃W,w.alloc (Obj.cells #[.slice D.ta D.ts.length D.tc,.slice D.ga D.gs.length D.gc,.slice D.oa D.os.length D.oc,.slice D.ha D.hs.length D.hc,.slice D.ca D.cs.length D.cc] 28)=W:=⟨_,rfl⟩;have h5:B5 W w.heap.size (.slice D.ta D.ts.length D.tc) (.slice D.ga D.gs.length D.gc) (.slice D.oa D.os.length D.oc) (.slice D.ha D.hs.length D.hc) (.slice D.ca D.cs.length D.cc):=(by subst hW;exact B5.new ..);have hBW:Below w.heap.size w W:=(by subst hW;go_grown);obtain⟨k0,k1,k2,k3,k4⟩:=h5;replace s2:=qb _ hBW s2;replace s3:=qb _ hBW s3;rw[hga]at k1;have HG:=qd hga;clear hga;obtain⟨i0,hi,hiz,his,hib⟩:=info_parts xH;obtain⟨j0,hj,hjz,hjs,hjb⟩:=info_parts XK;have hUI:qp.underlying 31=some (.slice 3):=(qF _).trans Tryz.underlying31;have hUW:qp.underlying 45=some (.slice 31):=(qF _).trans Tryz.underlying45;obtain⟨one,two,lo,hi2⟩:=g
   simp only at *
   go_enter (sf 67 f67),ntmps67;go_upto_region 1 with fail;(try rw[hW]);clear hW;go_upto_region 4 with fail;obtain⟨X,hX⟩:∃X,W.alloc (Obj.cells #[.int .i64 lo,.int .i64 hi2] 40)=X:=⟨_,rfl⟩;have hBX:Below W.heap.size W X:=(by subst hX;go_grown);have x0:X.cell? ⟨W.heap.size,0,none⟩=some (.int .i64 lo):=(by subst hX;go_cell);have x1:X.cell? ⟨W.heap.size,1,none⟩=some (.int .i64 hi2):=(by subst hX;go_cell);rw[hX];clear hX s2 s3;replace k0:=qb _ hBX k0;replace k1:=qb _ hBX k1;replace k2:=qb _ hBX k2;replace k3:=qb _ hBX k3;replace k4:=qb _ hBX k4;have HK:=qd (qg k0 (qg k1 (qg k2 (qg k3 (qg k4 (qg x0 x1))))));have hBw:=bcl hBW hBX;have hwX:w.heap.size<X.heap.size:=lt_of_cell k0;clear k0 k1 k2 k3 k4 hBW hBX hne x1;go_wp2;clear x0;go_loopw [7,6] (fun i u wr=>∃(j:Nat) (v:Value) (ws:List WayM),i=.int .i64 (lo+(j:Int))/\v=u/\lo+(j:Int)<=hi2+1/\Hid (Below X.heap.size X wr)/\Hid (wr.ownsRow X.heap.size 31 1 v ws.length (ws.map wvW))/\Hid (ws.map (·.l)=jT ⟨one,two,lo,hi2⟩ (D.gs.drop (t.length+1)) t j)/\Hid (∀x∈ws,qi wr 1 encI x.a x.l/\x.l.length<=x.c/\∀p,x.a=some p->X.heap.size<=p.block/\(1<=x.l.length->p.block<wr.heap.size/\v.ownBlock≠some p.block))) (fun i _ _=>(hi2+1-intOf i).toNat);case atStart=>exact⟨0,_,[],by simp,rfl,by omega,qd (Below.refl _ _),qd (World.ownsRow_nil _ _ _ _),qd rfl,qd (fun x hx=>by cases hx)⟩
   case round =>
    obtain⟨j,v,ws,rfl,rfl,hj2,HB,HO,HM,HW⟩:=hrel;have hwl:=congrArg List.length HM.out;obtain⟨k0,k1,k2,k3,k4,x0,x1⟩:=HK.out;replace k0:=qb _ HB.out k0;replace k1:=qb _ HB.out k1;replace k2:=qb _ HB.out k2;replace k3:=qb _ HB.out k3;replace k4:=qb _ HB.out k4;replace x1:=qb _ HB.out x1;clear x0;by_cases hlt2:lo+(j:Int)<=hi2
    ·go_upto_region 8 with fail;clear x1;have hS0:RHL [(⟨w.heap.size,0,none⟩,.slice D.ta D.ts.length D.tc),(⟨w.heap.size,1,none⟩,.slice (some ⟨b,o,none⟩) D.gs.length D.gc),(⟨w.heap.size,2,none⟩,.slice D.oa D.os.length D.oc),(⟨w.heap.size,3,none⟩,.slice D.ha D.hs.length D.hc),(⟨w.heap.size,4,none⟩,.slice D.ca D.cs.length D.cc)] X wr:=⟨k0,k1,k2,k3,k4,HB.out⟩
     have HSX:Hid (RHL [(⟨w.heap.size,0,none⟩,.slice D.ta D.ts.length D.tc),(⟨w.heap.size,1,none⟩,.slice (some ⟨b,o,none⟩) D.gs.length D.gc),(⟨w.heap.size,2,none⟩,.slice D.oa D.os.length D.oc),(⟨w.heap.size,3,none⟩,.slice D.ha D.hs.length D.hc),(⟨w.heap.size,4,none⟩,.slice D.ca D.cs.length D.cc)] X X):=by
      obtain⟨k0,k1,k2,k3,k4,_,_⟩:=HK.out;exact qd ⟨k0,k1,k2,k3,k4,Below.refl _ _⟩
     refine wp_region_held_drew (S:=(RHL [(⟨w.heap.size,0,none⟩,.slice D.ta D.ts.length D.tc),(⟨w.heap.size,1,none⟩,.slice (some ⟨b,o,none⟩) D.gs.length D.gc),(⟨w.heap.size,2,none⟩,.slice D.oa D.os.length D.oc),(⟨w.heap.size,3,none⟩,.slice D.ha D.hs.length D.hc),(⟨w.heap.size,4,none⟩,.slice D.ca D.cs.length D.cc)] X)) (by kernel_rfl) (by exact RHL.drew hS0) (fun hHeld=>?_);refine tk 0 ?_;refine tk 1 ?_;refine tk 3 ?_;(refine tk 5 ?_;try simp only[zs,Act.put]);clear k0 k1 k2 k3 k4;refine wpAnyH_ready (rs:=[2,6]) (by kernel_rfl) (by simp) ?_;refine AllReadyH.cons rfl (fun K hK=>?_) (AllReadyH.cons rfl (fun K hK=>?_) AllReadyH.nil)
     ·go_simp;refine hK.out _ _ (by exact RHL.call hHeld ((Below.refl _ _).alloc ql _)) (fun hHeldN=>?_);clear hK K hHeld;have hHeld:=hHeldN;clear hHeldN;(try simp only[zs,Act.put]);refine wpAnyH_ready (rs:=[4,6]) (by kernel_rfl) (by simp) ?_;refine AllReadyH.cons rfl (fun K hK=>?_) (AllReadyH.cons rfl (fun K hK=>?_) AllReadyH.nil)
      ·have own1:=(qbp (w:=wr.drew) (base:=wr.heap.size) (e:=3) (size:=1) rfl ql);refine jV rfl (.tmp 33) (.tmp 34) rfl t ta tc t.length rfl htl HD.out.2.2.2.2.1 wr.heap.size (wr.heap.size) own1 (by simp<;>omega) rfl rfl (HD.out.2.2.2.1.keep (bcl hBw (RHL.bel hHeld))) ?_;intro g1 c1 Y1 o1 ck1 q1;have hB1:Below wr.heap.size wr Y1:=((show Below wr.heap.size wr (wr.drew.alloc (Obj.cells #[] 3))from by go_grown)).trans ((Mod.grown (S:=fun b=>some b=some (wr.heap.size)) q1 (fun b e=>e.symm)).keep ((show Below wr.heap.size wr (wr.drew.alloc (Obj.cells #[] 3))from by go_grown)).size (fun b e=>by cases e;omega));refine hK.out _ _ (by exact RHL.call hS0 hB1) (fun hHeldN=>?_);clear hK K hHeld;have hHeld:=hHeldN;clear hHeldN;(try simp only[zs,Act.put]);refine tkR 6 fun K hK=>?_;go_simp;refine hK.out _ _ (by exact RHL.call hHeld ((Below.refl _ _).alloc ql _)) (fun hHeldN=>?_);clear hK K hHeld;have hHeld:=hHeldN;clear hHeldN;(try simp only[zs,Act.put]);have hOwn:((Y1.alloc (Obj.cells #[.int .i64 (lo+(j:Int))] 3))).ownsRow wr.heap.size 3 1 (.slice (some ⟨g1,0,none⟩) t.length c1) t.length (t.map (.int .i64)):=qV o1 ((Below.refl _ _).alloc ql _);have hNC:(Y1.alloc (Obj.cells #[.int .i64 (lo+(j:Int))] 3)).cell? ⟨Y1.heap.size,0,none⟩=some (.int .i64 (lo+(j:Int))):=(by go_cell);have hBT:Below wr.heap.size wr ((Y1.alloc (Obj.cells #[.int .i64 (lo+(j:Int))] 3))):=bcl hB1 ((Below.refl _ _).alloc ql _);have hwr:wrap64 (lo+(j:Int)+1)=lo+(j:Int)+1:=wrap_small (by omega) (by omega);have HWR:=qd hwr;clear hwr;have HG1:=qd hOwn
       refine tkR 7 fun K hK=>?_;refine step_append_lies _ rfl (.tmp 35) (.tmp 37) 31 rfl wr.heap.size 3 i0 (.int .i64 0) 1 8 hUI hi hiz his hib rfl (by decide) _ _ _ rfl hOwn _ 1 1 [.int .i64 (lo+(j:Int))] rfl rfl (zK hNC) (by simp[Value.oneCell']) (by decide) (by unfold maxLen;omega) (by omega) hBT.size _ rfl ?_;intro g2 c2 Y2 n2 q2 a2 b2;have hB2:Below wr.heap.size wr Y2:=hBT.trans ((Mod.grown (S:=fun b=>some b=some g1) q2 (fun b e=>e.symm)).keep hBT.size (fun b e=>by cases e;exact(HG1.out.lt _ rfl).1));refine hK.out _ _ (by exact RHL.call hS0 hB2) (fun hHeldN=>?_);clear hK K hHeld;have hHeld:=hHeldN;clear hHeldN;(try simp only[zs,Act.put]);have e9:(t++[lo+(j:Int)]).length=t.length+1:=by simp
       have hr2:qi Y2 1 encI (some ⟨g2,0,none⟩) (t++[lo+(j:Int)]):=by
        have n3:Y2.ownsRow wr.heap.size 3 1 (.slice (some ⟨g2,0,none⟩) (t.length+1) c2) (t.length+1) ((t++[lo+(j:Int)]).map (.int .i64)):=(by rw[List.map_append];exact n2);obtain⟨a,c,ea,_,hh⟩:=zz n3;cases ea;exact hh
       have hlc2:t.length+1<=c2:=by
        obtain⟨_,⟨h1,_⟩|⟨g,cap,cur,h1,_,_,h4,_⟩⟩:=n2
        ·cases h1
        ·cases h1;exact h4
       have hcall:=HD.out.2.2.2.2.2.2.2.1 (t++[lo+(j:Int)]) (some ⟨g2,0,none⟩) c2 Y2 (HD.out.1.keep (bcl hBw (Below.call HB.out hB2 ql))) (by rw[e9];have:=HD.out.2.1;omega) (by rw[e9];exact hlc2) hr2 (fun h=>by cases h);rw[HD.out.2.2.2.2.2.1,HG.out,e9]at hcall;have HCALL:=qd hcall;have hg2:=(n2.lt _ rfl).1;clear hcall hr2 e9 hNC hOwn;refine tkR 8 fun K hK=>?_;go_simp;go_wp2_with (go_at_call 67;(with_reducible refine HCALL.out.mono ?_);intro e Y3 hP;obtain⟨a3,c3,ws3,he,hc3,hm3,hr3,hw3,hB3⟩:=hP;subst he);have hBr:=bcl hB2 hB3;refine hK.out _ _ (by exact RHL.call hS0 hBr) (fun hHeldN=>?_);clear hK K hHeld;have hHeld:=hHeldN;clear hHeldN;(try simp only[zs,Act.put]);have hl3:=congrArg List.length hm3;rw[List.length_map]at hl3;have hp3:=HD.out.2.2.2.2.2.2.2.2.1 (t++[lo+(j:Int)]);have hp4:=HD.out.2.2.2.2.2.2.2.2.2;have hdl:D.gs.drop (t++[lo+(j:Int)]).length=D.gs.drop (t.length+1):=(by simp);rw[hdl]at hl3 hm3;have hjl:=Qj ⟨one,two,lo,hi2⟩ (D.gs.drop (t.length+1)) t (fun u=>Nat.le_trans (HD.out.2.2.2.2.2.2.2.2.1 u).2 hp4) j;rw[List.length_map]at hwl;have hb3:1<=ws3.length/\ws3.length<=27:=(by omega);have hbw:ws.length<=81:=(by omega);obtain⟨rb,ro,rfl,hP3⟩:=hr3 (by omega);have HR3:=qd (show qi Y3 1 xu (some ⟨rb,ro,none⟩) ws3 from fun _=>⟨rb,ro,rfl,hP3⟩);have hOv:=qV HO.out hBr;have HH:=qd (qg hm3 (qg hw3 hBr));clear hl3 hp3 hp4 hdl hjl hwl hm3 hw3 hP3 hr3;refine tkR 9 fun K hK=>?_;refine step_append_lies _ rfl (.tmp 31) (.tmp 39) 45 rfl X.heap.size 31 j0 (.slice none 0 0) 1 24 hUW hj hjz hjs hjb rfl (by decide) _ _ _ rfl hOv ⟨rb,ro,none⟩ ws3.length c3 (ws3.map wvW) rfl (by simp) (fun i u hu=>xE (k:=1) (enc:=xu) (fun _=>rfl) (by decide) HR3.out i u (by rw[Jk];exact hu)) (JH ws3) (by omega) (by unfold maxLen;omega) (by omega) (by have h8:=HB.out.size;have h9:=HH.out.2.2.size;omega) _ rfl ?_
       intro g4 c4 Y4 n4 q4 a4 b4;have hB4:Below X.heap.size X Y4:=(bcl HB.out HH.out.2.2).trans ((Mod.grown (S:=fun b=>v.ownBlock=some b) q4 (fun b e=>e)).keep (bcl HB.out HH.out.2.2).size (fun b hb=>(hOv.lt b hb).1));refine hK.out _ _ (by exact RHL.call HSX.out hB4) (fun hHeldN=>?_);clear hK K hHeld;have hHeld:=hHeldN;clear hHeldN;(try simp only[zs,Act.put]);(refine tk 10 ?_;try simp only[zs,Act.put]);refine wpAnyH_done (by kernel_rfl) ?_ _;(try simp only[zs,Act.put]);have hvl:∀b,v.ownBlock=some b->b<wr.heap.size:=fun b hb=>(HO.out.lt b hb).2;clear hHeld;have hwr:=HWR.out;go_wp2;go_roundw
       case rel =>
        clear hwr;refine⟨j+1,.slice (some ⟨g4,0,none⟩) (ws.length+ws3.length) c4,ws++ws3,congrArg (Value.int .i64) (by omega),rfl,by omega,qd hB4,qd ?_,qd ?_,qd fun x hx=>?_⟩
        ·rw[List.length_append,List.map_append];exact n4
        ·rw[List.map_append,HM.out,HH.out.1,xK]
        ·have h7:=HH.out.2.2.size;have h6:=q4.size;rcases List.mem_append.1 hx with hx|hx
         ·obtain⟨r1,r2,r3⟩:=HW.out x hx;refine⟨Qm (r1.keep HH.out.2.2) q4 (fun hl p hp=>((r3 p hp).2 hl).2),r2,fun p hp=>⟨(r3 p hp).1,fun hl=>⟨by have:=((r3 p hp).2 hl).1;omega,fun e=>?_⟩⟩⟩;have e2:g4=p.block:=(by simpa[Value.ownBlock]using e);have h8:=(r3 p hp).2 hl;rcases a4 with h9|h9
          ·exact h8.2 ((show v.ownBlock=some g4 from h9).trans (by rw[e2]))
          ·have:=h8.1;omega
         ·obtain⟨r1,r2,r3⟩:=HH.out.2.1 x hx
          have hge:∀p,x.a=some p->wr.heap.size<=p.block:=fun p hp=>by
           rcases r3 with h9|h9
           ·rw[h9]at hp;cases hp;exact hg2
           ·have:=h9 p hp;have:=hB2.size;omega
          have hlt9:1<=x.l.length->∀p,x.a=some p->p.block<Y3.heap.size:=fun hl p hp=>by
           obtain⟨b9,o9,e9,h9⟩:=r1 hl;rw[hp]at e9;cases e9;exact lt_of_cell (h9 0 _ (qM (by omega)) 0 _ rfl)
          refine⟨Qm r1 q4 (fun hl p hp e=>by have:=hvl _ e;have:=hge p hp;omega),r2,fun p hp=>⟨by have:=hge p hp;have:=HB.out.size;omega,fun hl=>⟨by have:=hlt9 hl p hp;omega,fun e=>?_⟩⟩⟩;have e2:g4=p.block:=(by simpa[Value.ownBlock]using e);rcases a4 with h9|h9
          ·have:=hvl _ h9;have:=hge p hp;omega
          ·have:=hlt9 hl p hp;omega
       case measure=>simp[intOf];omega
      ·go_simp;refine hK.out _ _ (by exact RHL.call hHeld ((Below.refl _ _).alloc ql _)) (fun hHeldN=>?_);clear hK K hHeld;have hHeld:=hHeldN;clear hHeldN;(try simp only[zs,Act.put]);refine tkR 4 fun K hK=>?_;have own1:=(show((wr.drew.alloc (Obj.cells #[] 3)).alloc (Obj.cells #[.int .i64 (lo+(j:Int))] 3)).ownsRow wr.heap.size 3 1 (.slice (some ⟨wr.heap.size,0,none⟩) 0 0) 0 []from qV (qbp (w:=wr.drew) (base:=wr.heap.size) (e:=3) (size:=1) rfl ql) ((Below.refl _ _).alloc ql _));refine jV rfl (.tmp 33) (.tmp 34) rfl t ta tc t.length rfl htl HD.out.2.2.2.2.1 wr.heap.size (wr.heap.size) own1 (by simp<;>omega) rfl rfl (HD.out.2.2.2.1.keep (bcl hBw (RHL.bel hHeld))) ?_;intro g1 c1 Y1 o1 ck1 q1;have hB1:Below wr.heap.size wr Y1:=((show Below wr.heap.size wr ((wr.drew.alloc (Obj.cells #[] 3)).alloc (Obj.cells #[.int .i64 (lo+(j:Int))] 3))from by go_grown)).trans ((Mod.grown (S:=fun b=>some b=some (wr.heap.size)) q1 (fun b e=>e.symm)).keep ((show Below wr.heap.size wr ((wr.drew.alloc (Obj.cells #[] 3)).alloc (Obj.cells #[.int .i64 (lo+(j:Int))] 3))from by go_grown)).size (fun b e=>by cases e;omega));refine hK.out _ _ (by exact RHL.call hS0 hB1) (fun hHeldN=>?_);clear hK K hHeld;have hHeld:=hHeldN;clear hHeldN;(try simp only[zs,Act.put]);have hOwn:(Y1).ownsRow wr.heap.size 3 1 (.slice (some ⟨g1,0,none⟩) t.length c1) t.length (t.map (.int .i64)):=o1;have hNC:Y1.cell? ⟨wr.heap.size+1,0,none⟩=some (.int .i64 (lo+(j:Int))):=(ck1 _ _ (by go_cell)).1;have hBT:Below wr.heap.size wr (Y1):=hB1;have hwr:wrap64 (lo+(j:Int)+1)=lo+(j:Int)+1:=wrap_small (by omega) (by omega)
       have HWR:=qd hwr;clear hwr;have HG1:=qd hOwn;refine tkR 7 fun K hK=>?_;refine step_append_lies _ rfl (.tmp 35) (.tmp 37) 31 rfl wr.heap.size 3 i0 (.int .i64 0) 1 8 hUI hi hiz his hib rfl (by decide) _ _ _ rfl hOwn _ 1 1 [.int .i64 (lo+(j:Int))] rfl rfl (zK hNC) (by simp[Value.oneCell']) (by decide) (by unfold maxLen;omega) (by omega) hBT.size _ rfl ?_;intro g2 c2 Y2 n2 q2 a2 b2;have hB2:Below wr.heap.size wr Y2:=hBT.trans ((Mod.grown (S:=fun b=>some b=some g1) q2 (fun b e=>e.symm)).keep hBT.size (fun b e=>by cases e;exact(HG1.out.lt _ rfl).1));refine hK.out _ _ (by exact RHL.call hS0 hB2) (fun hHeldN=>?_);clear hK K hHeld;have hHeld:=hHeldN;clear hHeldN;(try simp only[zs,Act.put]);have e9:(t++[lo+(j:Int)]).length=t.length+1:=by simp
       have hr2:qi Y2 1 encI (some ⟨g2,0,none⟩) (t++[lo+(j:Int)]):=by
        have n3:Y2.ownsRow wr.heap.size 3 1 (.slice (some ⟨g2,0,none⟩) (t.length+1) c2) (t.length+1) ((t++[lo+(j:Int)]).map (.int .i64)):=(by rw[List.map_append];exact n2);obtain⟨a,c,ea,_,hh⟩:=zz n3;cases ea;exact hh
       have hlc2:t.length+1<=c2:=by
        obtain⟨_,⟨h1,_⟩|⟨g,cap,cur,h1,_,_,h4,_⟩⟩:=n2
        ·cases h1
        ·cases h1;exact h4
       have hcall:=HD.out.2.2.2.2.2.2.2.1 (t++[lo+(j:Int)]) (some ⟨g2,0,none⟩) c2 Y2 (HD.out.1.keep (bcl hBw (Below.call HB.out hB2 ql))) (by rw[e9];have:=HD.out.2.1;omega) (by rw[e9];exact hlc2) hr2 (fun h=>by cases h);rw[HD.out.2.2.2.2.2.1,HG.out,e9]at hcall;have HCALL:=qd hcall;have hg2:=(n2.lt _ rfl).1;clear hcall hr2 e9 hNC hOwn;refine tkR 8 fun K hK=>?_;go_simp;go_wp2_with (go_at_call 67;(with_reducible refine HCALL.out.mono ?_);intro e Y3 hP;obtain⟨a3,c3,ws3,he,hc3,hm3,hr3,hw3,hB3⟩:=hP;subst he);have hBr:=bcl hB2 hB3;refine hK.out _ _ (by exact RHL.call hS0 hBr) (fun hHeldN=>?_);clear hK K hHeld;have hHeld:=hHeldN;clear hHeldN;(try simp only[zs,Act.put]);have hl3:=congrArg List.length hm3;rw[List.length_map]at hl3;have hp3:=HD.out.2.2.2.2.2.2.2.2.1 (t++[lo+(j:Int)]);have hp4:=HD.out.2.2.2.2.2.2.2.2.2;have hdl:D.gs.drop (t++[lo+(j:Int)]).length=D.gs.drop (t.length+1):=(by simp);rw[hdl]at hl3 hm3;have hjl:=Qj ⟨one,two,lo,hi2⟩ (D.gs.drop (t.length+1)) t (fun u=>Nat.le_trans (HD.out.2.2.2.2.2.2.2.2.1 u).2 hp4) j;rw[List.length_map]at hwl;have hb3:1<=ws3.length/\ws3.length<=27:=(by omega);have hbw:ws.length<=81:=(by omega);obtain⟨rb,ro,rfl,hP3⟩:=hr3 (by omega);have HR3:=qd (show qi Y3 1 xu (some ⟨rb,ro,none⟩) ws3 from fun _=>⟨rb,ro,rfl,hP3⟩);have hOv:=qV HO.out hBr;have HH:=qd (qg hm3 (qg hw3 hBr));clear hl3 hp3 hp4 hdl hjl hwl hm3 hw3 hP3 hr3;refine tkR 9 fun K hK=>?_;refine step_append_lies _ rfl (.tmp 31) (.tmp 39) 45 rfl X.heap.size 31 j0 (.slice none 0 0) 1 24 hUW hj hjz hjs hjb rfl (by decide) _ _ _ rfl hOv ⟨rb,ro,none⟩ ws3.length c3 (ws3.map wvW) rfl (by simp) (fun i u hu=>xE (k:=1) (enc:=xu) (fun _=>rfl) (by decide) HR3.out i u (by rw[Jk];exact hu)) (JH ws3) (by omega) (by unfold maxLen;omega) (by omega) (by have h8:=HB.out.size;have h9:=HH.out.2.2.size;omega) _ rfl ?_
       intro g4 c4 Y4 n4 q4 a4 b4;have hB4:Below X.heap.size X Y4:=(bcl HB.out HH.out.2.2).trans ((Mod.grown (S:=fun b=>v.ownBlock=some b) q4 (fun b e=>e)).keep (bcl HB.out HH.out.2.2).size (fun b hb=>(hOv.lt b hb).1));refine hK.out _ _ (by exact RHL.call HSX.out hB4) (fun hHeldN=>?_);clear hK K hHeld;have hHeld:=hHeldN;clear hHeldN;(try simp only[zs,Act.put]);(refine tk 10 ?_;try simp only[zs,Act.put]);refine wpAnyH_done (by kernel_rfl) ?_ _;(try simp only[zs,Act.put]);have hvl:∀b,v.ownBlock=some b->b<wr.heap.size:=fun b hb=>(HO.out.lt b hb).2;clear hHeld;have hwr:=HWR.out;go_wp2;go_roundw
       case rel =>
        clear hwr;refine⟨j+1,.slice (some ⟨g4,0,none⟩) (ws.length+ws3.length) c4,ws++ws3,congrArg (Value.int .i64) (by omega),rfl,by omega,qd hB4,qd ?_,qd ?_,qd fun x hx=>?_⟩
        ·rw[List.length_append,List.map_append];exact n4
        ·rw[List.map_append,HM.out,HH.out.1,xK]
        ·have h7:=HH.out.2.2.size;have h6:=q4.size;rcases List.mem_append.1 hx with hx|hx
         ·obtain⟨r1,r2,r3⟩:=HW.out x hx;refine⟨Qm (r1.keep HH.out.2.2) q4 (fun hl p hp=>((r3 p hp).2 hl).2),r2,fun p hp=>⟨(r3 p hp).1,fun hl=>⟨by have:=((r3 p hp).2 hl).1;omega,fun e=>?_⟩⟩⟩;have e2:g4=p.block:=(by simpa[Value.ownBlock]using e);have h8:=(r3 p hp).2 hl;rcases a4 with h9|h9
          ·exact h8.2 ((show v.ownBlock=some g4 from h9).trans (by rw[e2]))
          ·have:=h8.1;omega
         ·obtain⟨r1,r2,r3⟩:=HH.out.2.1 x hx
          have hge:∀p,x.a=some p->wr.heap.size<=p.block:=fun p hp=>by
           rcases r3 with h9|h9
           ·rw[h9]at hp;cases hp;exact hg2
           ·have:=h9 p hp;have:=hB2.size;omega
          have hlt9:1<=x.l.length->∀p,x.a=some p->p.block<Y3.heap.size:=fun hl p hp=>by
           obtain⟨b9,o9,e9,h9⟩:=r1 hl;rw[hp]at e9;cases e9;exact lt_of_cell (h9 0 _ (qM (by omega)) 0 _ rfl)
          refine⟨Qm r1 q4 (fun hl p hp e=>by have:=hvl _ e;have:=hge p hp;omega),r2,fun p hp=>⟨by have:=hge p hp;have:=HB.out.size;omega,fun hl=>⟨by have:=hlt9 hl p hp;omega,fun e=>?_⟩⟩⟩;have e2:g4=p.block:=(by simpa[Value.ownBlock]using e);rcases a4 with h9|h9
          ·have:=hvl _ h9;have:=hge p hp;omega
          ·have:=hlt9 hl p hp;omega
       case measure=>simp[intOf];omega
     ·go_simp;refine hK.out _ _ (by exact RHL.call hHeld ((Below.refl _ _).alloc ql _)) (fun hHeldN=>?_);clear hK K hHeld;have hHeld:=hHeldN;clear hHeldN;(try simp only[zs,Act.put]);refine tkR 2 fun K hK=>?_;go_simp;refine hK.out _ _ (by exact RHL.call hHeld ((Below.refl _ _).alloc ql _)) (fun hHeldN=>?_);clear hK K hHeld;have hHeld:=hHeldN;clear hHeldN;(try simp only[zs,Act.put]);refine tkR 4 fun K hK=>?_;have own1:=(qbp (w:=wr.drew.alloc (Obj.cells #[.int .i64 (lo+(j:Int))] 3)) (base:=wr.heap.size) (e:=3) (size:=1) (b:=wr.heap.size+1) (by simp) (by omega));refine jV rfl (.tmp 33) (.tmp 34) rfl t ta tc t.length rfl htl HD.out.2.2.2.2.1 wr.heap.size (wr.heap.size+1) own1 (by simp<;>omega) rfl rfl (HD.out.2.2.2.1.keep (bcl hBw (RHL.bel hHeld))) ?_;intro g1 c1 Y1 o1 ck1 q1;have hB1:Below wr.heap.size wr Y1:=((show Below wr.heap.size wr ((wr.drew.alloc (Obj.cells #[.int .i64 (lo+(j:Int))] 3)).alloc (Obj.cells #[] 3))from by go_grown)).trans ((Mod.grown (S:=fun b=>some b=some (wr.heap.size+1)) q1 (fun b e=>e.symm)).keep ((show Below wr.heap.size wr ((wr.drew.alloc (Obj.cells #[.int .i64 (lo+(j:Int))] 3)).alloc (Obj.cells #[] 3))from by go_grown)).size (fun b e=>by cases e;omega));refine hK.out _ _ (by exact RHL.call hS0 hB1) (fun hHeldN=>?_);clear hK K hHeld;have hHeld:=hHeldN;clear hHeldN;(try simp only[zs,Act.put]);have hOwn:(Y1).ownsRow wr.heap.size 3 1 (.slice (some ⟨g1,0,none⟩) t.length c1) t.length (t.map (.int .i64)):=o1;have hNC:Y1.cell? ⟨wr.heap.size,0,none⟩=some (.int .i64 (lo+(j:Int))):=(ck1 _ _ (by go_cell)).1
      have hBT:Below wr.heap.size wr (Y1):=hB1;have hwr:wrap64 (lo+(j:Int)+1)=lo+(j:Int)+1:=wrap_small (by omega) (by omega);have HWR:=qd hwr;clear hwr;have HG1:=qd hOwn;refine tkR 7 fun K hK=>?_;refine step_append_lies _ rfl (.tmp 35) (.tmp 37) 31 rfl wr.heap.size 3 i0 (.int .i64 0) 1 8 hUI hi hiz his hib rfl (by decide) _ _ _ rfl hOwn _ 1 1 [.int .i64 (lo+(j:Int))] rfl rfl (zK hNC) (by simp[Value.oneCell']) (by decide) (by unfold maxLen;omega) (by omega) hBT.size _ rfl ?_;intro g2 c2 Y2 n2 q2 a2 b2;have hB2:Below wr.heap.size wr Y2:=hBT.trans ((Mod.grown (S:=fun b=>some b=some g1) q2 (fun b e=>e.symm)).keep hBT.size (fun b e=>by cases e;exact(HG1.out.lt _ rfl).1));refine hK.out _ _ (by exact RHL.call hS0 hB2) (fun hHeldN=>?_);clear hK K hHeld;have hHeld:=hHeldN;clear hHeldN;(try simp only[zs,Act.put]);have e9:(t++[lo+(j:Int)]).length=t.length+1:=by simp
      have hr2:qi Y2 1 encI (some ⟨g2,0,none⟩) (t++[lo+(j:Int)]):=by
       have n3:Y2.ownsRow wr.heap.size 3 1 (.slice (some ⟨g2,0,none⟩) (t.length+1) c2) (t.length+1) ((t++[lo+(j:Int)]).map (.int .i64)):=(by rw[List.map_append];exact n2);obtain⟨a,c,ea,_,hh⟩:=zz n3;cases ea;exact hh
      have hlc2:t.length+1<=c2:=by
       obtain⟨_,⟨h1,_⟩|⟨g,cap,cur,h1,_,_,h4,_⟩⟩:=n2
       ·cases h1
       ·cases h1;exact h4
      have hcall:=HD.out.2.2.2.2.2.2.2.1 (t++[lo+(j:Int)]) (some ⟨g2,0,none⟩) c2 Y2 (HD.out.1.keep (bcl hBw (Below.call HB.out hB2 ql))) (by rw[e9];have:=HD.out.2.1;omega) (by rw[e9];exact hlc2) hr2 (fun h=>by cases h);rw[HD.out.2.2.2.2.2.1,HG.out,e9]at hcall;have HCALL:=qd hcall;have hg2:=(n2.lt _ rfl).1;clear hcall hr2 e9 hNC hOwn;refine tkR 8 fun K hK=>?_;go_simp;go_wp2_with (go_at_call 67;(with_reducible refine HCALL.out.mono ?_);intro e Y3 hP;obtain⟨a3,c3,ws3,he,hc3,hm3,hr3,hw3,hB3⟩:=hP;subst he);have hBr:=bcl hB2 hB3;refine hK.out _ _ (by exact RHL.call hS0 hBr) (fun hHeldN=>?_);clear hK K hHeld;have hHeld:=hHeldN;clear hHeldN;(try simp only[zs,Act.put]);have hl3:=congrArg List.length hm3;rw[List.length_map]at hl3;have hp3:=HD.out.2.2.2.2.2.2.2.2.1 (t++[lo+(j:Int)]);have hp4:=HD.out.2.2.2.2.2.2.2.2.2;have hdl:D.gs.drop (t++[lo+(j:Int)]).length=D.gs.drop (t.length+1):=(by simp);rw[hdl]at hl3 hm3;have hjl:=Qj ⟨one,two,lo,hi2⟩ (D.gs.drop (t.length+1)) t (fun u=>Nat.le_trans (HD.out.2.2.2.2.2.2.2.2.1 u).2 hp4) j;rw[List.length_map]at hwl;have hb3:1<=ws3.length/\ws3.length<=27:=(by omega);have hbw:ws.length<=81:=(by omega);obtain⟨rb,ro,rfl,hP3⟩:=hr3 (by omega);have HR3:=qd (show qi Y3 1 xu (some ⟨rb,ro,none⟩) ws3 from fun _=>⟨rb,ro,rfl,hP3⟩);have hOv:=qV HO.out hBr;have HH:=qd (qg hm3 (qg hw3 hBr));clear hl3 hp3 hp4 hdl hjl hwl hm3 hw3 hP3 hr3;refine tkR 9 fun K hK=>?_;refine step_append_lies _ rfl (.tmp 31) (.tmp 39) 45 rfl X.heap.size 31 j0 (.slice none 0 0) 1 24 hUW hj hjz hjs hjb rfl (by decide) _ _ _ rfl hOv ⟨rb,ro,none⟩ ws3.length c3 (ws3.map wvW) rfl (by simp) (fun i u hu=>xE (k:=1) (enc:=xu) (fun _=>rfl) (by decide) HR3.out i u (by rw[Jk];exact hu)) (JH ws3) (by omega) (by unfold maxLen;omega) (by omega) (by have h8:=HB.out.size;have h9:=HH.out.2.2.size;omega) _ rfl ?_
      intro g4 c4 Y4 n4 q4 a4 b4;have hB4:Below X.heap.size X Y4:=(bcl HB.out HH.out.2.2).trans ((Mod.grown (S:=fun b=>v.ownBlock=some b) q4 (fun b e=>e)).keep (bcl HB.out HH.out.2.2).size (fun b hb=>(hOv.lt b hb).1));refine hK.out _ _ (by exact RHL.call HSX.out hB4) (fun hHeldN=>?_);clear hK K hHeld;have hHeld:=hHeldN;clear hHeldN;(try simp only[zs,Act.put]);(refine tk 10 ?_;try simp only[zs,Act.put]);refine wpAnyH_done (by kernel_rfl) ?_ _;(try simp only[zs,Act.put]);have hvl:∀b,v.ownBlock=some b->b<wr.heap.size:=fun b hb=>(HO.out.lt b hb).2;clear hHeld;have hwr:=HWR.out;go_wp2;go_roundw
      case rel =>
       clear hwr;refine⟨j+1,.slice (some ⟨g4,0,none⟩) (ws.length+ws3.length) c4,ws++ws3,congrArg (Value.int .i64) (by omega),rfl,by omega,qd hB4,qd ?_,qd ?_,qd fun x hx=>?_⟩
       ·rw[List.length_append,List.map_append];exact n4
       ·rw[List.map_append,HM.out,HH.out.1,xK]
       ·have h7:=HH.out.2.2.size;have h6:=q4.size;rcases List.mem_append.1 hx with hx|hx
        ·obtain⟨r1,r2,r3⟩:=HW.out x hx;refine⟨Qm (r1.keep HH.out.2.2) q4 (fun hl p hp=>((r3 p hp).2 hl).2),r2,fun p hp=>⟨(r3 p hp).1,fun hl=>⟨by have:=((r3 p hp).2 hl).1;omega,fun e=>?_⟩⟩⟩;have e2:g4=p.block:=(by simpa[Value.ownBlock]using e);have h8:=(r3 p hp).2 hl;rcases a4 with h9|h9
         ·exact h8.2 ((show v.ownBlock=some g4 from h9).trans (by rw[e2]))
         ·have:=h8.1;omega
        ·obtain⟨r1,r2,r3⟩:=HH.out.2.1 x hx
         have hge:∀p,x.a=some p->wr.heap.size<=p.block:=fun p hp=>by
          rcases r3 with h9|h9
          ·rw[h9]at hp;cases hp;exact hg2
          ·have:=h9 p hp;have:=hB2.size;omega
         have hlt9:1<=x.l.length->∀p,x.a=some p->p.block<Y3.heap.size:=fun hl p hp=>by
          obtain⟨b9,o9,e9,h9⟩:=r1 hl;rw[hp]at e9;cases e9;exact lt_of_cell (h9 0 _ (qM (by omega)) 0 _ rfl)
         refine⟨Qm r1 q4 (fun hl p hp e=>by have:=hvl _ e;have:=hge p hp;omega),r2,fun p hp=>⟨by have:=hge p hp;have:=HB.out.size;omega,fun hl=>⟨by have:=hlt9 hl p hp;omega,fun e=>?_⟩⟩⟩;have e2:g4=p.block:=(by simpa[Value.ownBlock]using e);rcases a4 with h9|h9
         ·have:=hvl _ h9;have:=hge p hp;omega
         ·have:=hlt9 hl p hp;omega
      case measure=>simp[intOf];omega
    ·clear k0 k1 k2 k3 k4;obtain⟨a9,c9,hv,hvc,hvr⟩:∃a c,v=.slice a ws.length c/\ws.length<=c/\qi wr 1 xu a ws:=jU HO.out;subst hv;have HV:=qd (qg hvc hvr);clear hvc hvr;go_wp2;go_ret;refine⟨a9,c9,ws,rfl,HV.out.1,?_,HV.out.2,fun x hx=>⟨(HW.out x hx).1,(HW.out x hx).2.1,.inr fun p hp=>by have:=((HW.out x hx).2.2 p hp).1;omega⟩,bcl hBw HB.out⟩;rw[HD.out.2.2.2.2.2.2.1,HM.out];exact(XM ⟨one,two,lo,hi2⟩ _ t j (by simp only;omega)).symm
theorem Xb:∀(gs:List GrpM) (t:List Int),(∀g∈gs,0<=g.lo/\g.hi<=6)->(∀x∈t,0<=x/\x<=6)->∀u∈xh gs t,u.length=t.length+gs.length/\∀x∈u,0<=x/\x<=6
 | [],t,_,ht,u,hu=>by
   rw[xh,List.mem_singleton]at hu;subst hu;exact⟨rfl,ht⟩
 | g::gs,t,hg,ht,u,hu=>by
   rw[xh,List.mem_flatMap]at hu;obtain⟨n,hn,hu⟩:=hu
   have hb:g.lo<=n/\n<=g.hi:=by
    unfold Qw at hn;obtain⟨k,hk,rfl⟩:=List.mem_map.1 hn;have:=List.mem_range.1 hk;omega
   have h0:=hg g (List.mem_cons_self ..)
   obtain⟨h1,h2⟩:=Xb gs (t++[n]) (fun x hx=>hg x (List.mem_cons_of_mem _ hx)) (fun x hx=>by
    rcases List.mem_append.1 hx with hx|hx
    ·exact ht x hx
    ·rw[List.mem_singleton]at hx;omega) u hu
   refine⟨?_,h2⟩;rw[h1,List.length_append,List.length_cons,List.length_nil,List.length_cons];omega
def zy(D:DayM):List (List Int):=(xh D.gs []).filter fun t=>xm (qD D (setOf (qC t))) D.cs
theorem qds(t:List Int)(n:Int)(h:t.length<4):qC (t++[n])=(qC t).set t.length n:=by
 refine PastM.same fun j hj=>?_;rw[yB _ hj];by_cases e:j=t.length
 ·subst e;rw[PastM.get_set _ h,List.getD_eq_getElem?_getD,List.getElem?_append_right ql,Nat.sub_self];rfl
 ·rw[PastM.get_set_ne _ h hj e,yB _ hj,List.getD_eq_getElem?_getD,List.getD_eq_getElem?_getD];by_cases h2:j<t.length
  ·rw[List.getElem?_append_left h2]
  ·rw[List.getElem?_append_right (by omega),List.getElem?_eq_none (by rw[List.length_cons,List.length_nil];omega),List.getElem?_eq_none (by omega)]
theorem qas:∀(gs:List GrpM) (t:List Int),t.length+gs.length<=4->(xh gs t).map qC=zw gs t.length (qC t)
 | [],_,_=>rfl
 | g::gs,t,h=>by
   rw[List.length_cons]at h;rw[xh,zw,List.map_flatMap];congr 1;funext n;rw[qas gs (t++[n]) (by rw[List.length_append,List.length_cons,List.length_nil];omega),qds _ _ (by omega),List.length_append,List.length_cons,List.length_nil]
theorem yQ(D:DayM)(h:D.gs.length<=4):(zy D).map qC=qx D:=by
 unfold zy qx;have e:=qas D.gs [] (by rw[List.length_nil];omega);rw[show qC []=⟨0,0,0,0⟩from rfl,List.length_nil]at e;rw[<-e,List.filter_map];rfl
def PastsOfP(D:DayM)(w:World)(e:Ending)(w':World):Prop:=∃a c ws,e=.returned (.slice a ws.length c)/\ws.length<=c/\ws.map (·.l)=zy D/\qi w' 1 xu a ws/\(∀x∈ws,qi w' 1 encI x.a x.l/\x.l.length<=x.c)/\Below w.heap.size w w'
theorem Ya(D:DayM)(w:World)(h:DayAt w D)(hs:DaySm D)(hz:checkN D=0):Calls qp 19 #[dv D] w (PastsOfP D w):=by
 have hdv:dv D=.agg #[.slice D.ta D.ts.length D.tc,.slice D.ga D.gs.length D.gc,.slice D.oa D.os.length D.oc,.slice D.ha D.hs.length D.hc,.slice D.ca D.cs.length D.cc]:=rfl;have hgl:=(qY D hz).gs;have hpa:=fun W (hB:Below w.heap.size w W)=>XP D hz hs D.gs.length [] none 0 W (h.keep hB) (by simp) ql (qi.nil _ _ _ _) (fun _=>rfl);have hcl:=(qY D hz).cs;have HD:=qd (qg h (qg hs (qg hz hdv)));simp only[List.length_nil,hdv]at hpa⊢;have HPA:=qd hpa;clear hpa h hs hdv;obtain⟨W,hW⟩:∃W,w.alloc (Obj.cells #[.slice D.ta D.ts.length D.tc,.slice D.ga D.gs.length D.gc,.slice D.oa D.os.length D.oc,.slice D.ha D.hs.length D.hc,.slice D.ca D.cs.length D.cc] 28)=W:=⟨_,rfl⟩;have h5:B5 W w.heap.size (.slice D.ta D.ts.length D.tc) (.slice D.ga D.gs.length D.gc) (.slice D.oa D.os.length D.oc) (.slice D.ha D.hs.length D.hc) (.slice D.ca D.cs.length D.cc):=by subst hW;exact B5.new ..
 have hBW:Below w.heap.size w W:=by subst hW;go_grown
 have H5:=qd h5;obtain⟨k0,k1,k2,k3,k4⟩:=h5;obtain⟨j0,hj,hjz,hjs,hjb⟩:=info_parts XK;have hUW:qp.underlying 45=some (.slice 31):=(qF _).trans Tryz.underlying45;go_enter (sf 19 f19),ntmps19;go_upto_region 1 with fail;try rw[hW]
 clear hW;go_upto_region 2 with(go_at_call 67;(with_reducible refine(HPA.out _ hBW).mono ?_);intro e X hP;obtain⟨a,c,ws,he,hwc,hwm,hwr,hww,hBX⟩:=hP;subst he);have hbw:=bcl hBW hBX;have hok:=Xb D.gs [] (fun g hg=>by have:=xG D hz g hg;omega) (fun x hx=>by cases hx);have hll:=ZG D.gs [] (fun g hg=>by have:=xG D hz g hg;omega);rw[List.length_nil,List.drop_zero]at hwm;have hwl:=congrArg List.length hwm;rw[List.length_map]at hwl;have hpow:3 ^ D.gs.length<=81:=Nat.pow_le_pow_right (n:=3) (by decide) hgl;have hw81:ws.length<=81:=by omega
 have HX:=qd (qg hwm (qg hwr (qg hww (qg hok (qg hBX hbw)))));clear hwm hwr hww hok hll hwl hpow HPA hBX hbw k0 k1 k2 k3 k4 hz;go_wp2;go_loopw [5,4] (fun i u wr=>∃(j:Nat) (v:Value) (us:List WayM),i=.int .i64 j/\v=u/\j<=ws.length/\Hid (Below X.heap.size X wr)/\Hid (wr.ownsRow X.heap.size 31 1 v us.length (us.map wvW))/\Hid (us=(ws.take j).filter fun x=>xm (qD D (setOf (qC x.l))) D.cs)) (fun i _ _=>ws.length-(intOf i).toNat);case atStart=>exact⟨0,_,[],rfl,rfl,by omega,qd (Below.refl _ _),qd (World.ownsRow_nil _ _ _ _),qd (by simp)⟩
 case round =>
  obtain⟨j,v,us,rfl,rfl,hjl,HB,HO,HU⟩:=hrel
  have hul:us.length<=81:=by
   rw[HU.out];have:=List.length_filter_le (fun x:WayM=>xm (qD D (setOf (qC x.l))) D.cs) (ws.take j);rw[List.length_take]at this;omega
  have hBw:=bcl HX.out.2.2.2.2.2 HB.out;by_cases hlt:j<ws.length
  ·obtain⟨k0,k1,k2,k3,k4⟩:=H5.out.keep (bcl HX.out.2.2.2.2.1 HB.out);obtain⟨x,hx⟩:∃x,ws[j]? = some x:=⟨_,qM hlt⟩;have hxm:=qI hx;obtain⟨rb,ro,rfl,hRP⟩:=HX.out.2.1 (by omega);have c0:=qb _ HB.out (hRP j x hx 0 _ rfl);simp only[Nat.mul_one,Nat.add_zero]at c0;obtain⟨x1,x2,_⟩:=HX.out.2.2.1 x hxm;have hxo:=HX.out.2.2.2.1 x.l (by rw[<-HX.out.1];exact List.mem_map.2 ⟨x,hxm,rfl⟩);rw[List.length_nil,Nat.zero_add]at hxo;have hpo:=fun V (hB:Below wr.heap.size wr V)=>qbv D x.l x.a x.c V (HD.out.1.keep (bcl hBw hB)) HD.out.2.1 HD.out.2.2.1 hxo.1 x2 (x1.keep (bcl HB.out hB)) (fun y hy=>by have:=hxo.2 y hy;omega);have hPl:=qH D (setOf (qC x.l));have hri:=fun(pa:Option Addr) (pc:Nat) V (hB:Below wr.heap.size wr V) (hpc:D.cs.length<=pc) (hpr:qi V 1 encI pa (qD D (setOf (qC x.l))))=>qdv D (qD D (setOf (qC x.l))) pa pc V (HD.out.1.keep (bcl hBw hB)) HD.out.2.1 hPl hpc hpr
   have htk:(ws.take (j+1)).filter (fun x=>xm (qD D (setOf (qC x.l))) D.cs)=us++if xm (qD D (setOf (qC x.l))) D.cs=true then[x]else[]:=by
    obtain⟨h9,rfl⟩:=qB hx;rw[List.take_succ_eq_append_getElem h9,List.filter_append,<-HU.out];congr 1;simp only[List.filter_cons,List.filter_nil]
   generalize qD D (setOf (qC x.l))=P at *
   generalize xm P D.cs=B at *
   rw[HD.out.2.2.2]at hpo hri;have HPO:=qd hpo;have HRI:=qd hri;have HTK:=qd htk;have hj1:(j:Int)<(ws.length:Int):=(by omega);have hj2:(j:Int)<=(c:Int):=(by omega);clear hpo hri htk hPl hRP hx hxm x1 x2 hxo;go_upto_region 6 with fail;refine wp_region_held_drew (S:=(RHL [(⟨w.heap.size,0,none⟩,.slice D.ta D.ts.length D.tc),(⟨w.heap.size,1,none⟩,.slice D.ga D.gs.length D.gc),(⟨w.heap.size,2,none⟩,.slice D.oa D.os.length D.oc),(⟨w.heap.size,3,none⟩,.slice D.ha D.hs.length D.hc),(⟨w.heap.size,4,none⟩,.slice D.ca D.cs.length D.cc),(⟨rb,ro+j,none⟩,.slice x.a x.l.length x.c)] wr)) (by kernel_rfl) (by exact RHL.drew ⟨k0,k1,k2,k3,k4,c0,Below.refl _ _⟩) (fun hHeld=>?_);refine tk 0 ?_;refine tk 1 ?_;refine tk 2 ?_;refine tk 3 ?_;refine tk 4 ?_;(refine tk 5 ?_;try simp only[zs,Act.put]);refine tkR 6 fun K hK=>?_;go_simp;go_wp2_with (go_at_call 51;(with_reducible refine(HPO.out _ (RHL.bel hHeld)).mono ?_);intro e X6 hP;obtain⟨⟨pa,pc,he,hpc,hpr⟩,hB6⟩:=hP;subst he);refine hK.out _ _ (by exact RHL.call hHeld hB6) (fun hHeldN=>?_);clear hK K hHeld;have hHeld:=hHeldN;clear hHeldN;(try simp only[zs,Act.put]);have hri:=HRI.out pa pc X6 (RHL.bel hHeld) hpc hpr;refine tkR 7 fun K hK=>?_;go_simp;go_wp2_with (go_at_call 68;(with_reducible refine hri.mono ?_);rintro e X7 ⟨rfl,hB7⟩);refine hK.out _ _ (by exact RHL.call hHeld hB7) (fun hHeldN=>?_);clear hK K hHeld;have hHeld:=hHeldN;clear hHeldN;(try simp only[zs,Act.put]);refine wpAnyH_done (by kernel_rfl) ?_ _;(try simp only[zs,Act.put]);have hB4:=RHL.bel hHeld
   replace c0:=qb _ hB4 c0;have HO7:=qd (qV HO.out hB4);have HB7:=qd (bcl HB.out hB4);clear hHeld k0 k1 k2 k3 k4 hri hpr hpc hB6 hB7 hB4 HPO HRI hBw
   cases B with
   | false =>
     go_wp2;go_roundw;(case rel=>exact⟨j+1,v,us,rfl,rfl,by omega,HB7,HO7,qd (by rw[HTK.out];simp)⟩);case measure=>simp[intOf];omega
   | true =>
     go_wp2_with (at_builtin;refine wpList_append_own_at _ rfl (.tmp 22) (.tmp 27) 45 rfl X.heap.size 31 j0 (.slice none 0 0) 1 24 hUW hj hjz hjs hjb rfl (by decide) _ _ _ rfl (HO7.out.alloc _) ⟨X7.heap.size,0,none⟩ 1 1 [wvW x] rfl rfl (cell_one_new _ _ _) (qbN x) (by unfold maxLen;omega) (by omega) (by have h9:X.heap.size<=X7.heap.size:=HB7.out.size;simp;omega) ?_;intro v1 w3 n1 y1 nil1 at1);have y2:(X7.alloc (.cells #[wvW x] 31)).grownBy w3 v.ownBlock:=y1;have hB3:=HB7.out.trans (((Mod.below ((Below.refl _ X7).alloc ql _)).trans (Mod.grown (S:=fun b=>v.ownBlock=some b) y2 (fun b e=>e))).keep HB7.out.size (fun b hb=>(HO7.out.lt b hb).1));go_roundw
     case rel =>
      refine⟨j+1,v1,us++[x],rfl,rfl,by omega,qd hB3,qd ?_,qd (by rw[HTK.out];simp)⟩;rw[List.length_append,List.map_append];exact n1
     case measure=>simp[intOf];omega
  ·obtain rfl:j=ws.length:=(by omega);obtain⟨a9,c9,hv,hvc,hvr⟩:∃a c,v=.slice a us.length c/\us.length<=c/\qi wr 1 xu a us:=jU HO.out;subst hv;have HV:=qd (qg hvc (qg hvr hBw));clear hvc hvr hBw;go_wp2;go_ret;have hu:=HU.out;rw[List.take_length]at hu;refine⟨a9,c9,us,rfl,HV.out.1,?_,HV.out.2.1,fun x hx=>?_,HV.out.2.2⟩
   ·rw[hu];unfold zy;rw[<-HX.out.1,List.filter_map];rfl
   ·have hm:x∈ws:=(by rw[hu]at hx;exact(List.mem_filter.1 hx).1);obtain⟨x1,x2,_⟩:=HX.out.2.2.1 x hm;exact⟨x1.keep HB.out,x2⟩
theorem Xa(D:DayM)(h:D.gs.length<=4):(zy D).length=(qx D).length:=by rw[<-yQ D h,List.length_map]
theorem ZF{D:DayM}(hz:checkN D=0):∀u∈zy D,u.length=D.gs.length/\∀x∈u,0<=x/\x<=6:=fun u hu=>by
 have h:=Xb D.gs [] (fun g hg=>by have:=xG D hz g hg;omega) (fun x hx=>by cases hx) u (List.mem_filter.1 hu).1;rwa[List.length_nil,Nat.zero_add]at h
def WSok(D:DayM)(w:World)(ws:List WayM):Prop:=∀x∈ws,qi w 1 encI x.a x.l/\x.l.length<=x.c/\x.l.length=D.gs.length/\∀y∈x.l,0<=y/\y<=6
theorem WSok.keep{D:DayM}{w w1:World}{ws:List WayM}(h:WSok D w ws)(hB:Below w.heap.size w w1):WSok D w1 ws:=fun x hx=>⟨(h x hx).1.keep hB,(h x hx).2⟩
theorem WSok.of{D:DayM}(hz:checkN D=0){w:World}{ws:List WayM}(hm:ws.map (·.l)=zy D)(h:∀x∈ws,qi w 1 encI x.a x.l/\x.l.length<=x.c):WSok D w ws:=fun x hx =>
 have h9:=ZF hz x.l (by rw[<-hm];exact List.mem_map.2 ⟨x,hx,rfl⟩)
 ⟨(h x hx).1,(h x hx).2,h9.1,h9.2⟩
def didN(D:DayM)(k:Nat)(x:WayM):Int:=(qD D (setOf (qC x.l))).getD k 0
def ym:List Int->Int×Int
 | []=>(0,0)
 | x::l=>l.foldl (fun b n=>(min b.1 n,max b.2 n)) (x,x)
theorem qdY(l:List Int)(n:Int):ym (l++[n])=if l.length=0 then(n,n)else(min (ym l).1 n,max (ym l).2 n):=by
 cases l with
 | nil=>rfl
 | cons x l =>
   rw[if_neg (by simp)];show(l++[n]).foldl _ (x,x)=_;rw[List.foldl_append];rfl
theorem bandF_is(l:List Int)(h:l≠[]):(ym l).1∈l/\(ym l).2∈l/\∀x∈l,(ym l).1<=x/\x<=(ym l).2:=by
 cases l with
 | nil=>exact absurd rfl h
 | cons x l =>
   show(l.foldl (fun(b:Int×Int) n=>(min b.1 n,max b.2 n)) (x,x)).1∈_/\(l.foldl (fun(b:Int×Int) n=>(min b.1 n,max b.2 n)) (x,x)).2∈_/\∀y∈x::l,(l.foldl (fun(b:Int×Int) n=>(min b.1 n,max b.2 n)) (x,x)).1<=y/\y<=(l.foldl (fun(b:Int×Int) n=>(min b.1 n,max b.2 n)) (x,x)).2
   have key:∀(l:List Int) (p q:Int),p<=q->((l.foldl (fun(b:Int×Int) n=>(min b.1 n,max b.2 n)) (p,q)).1=p\/(l.foldl (fun(b:Int×Int) n=>(min b.1 n,max b.2 n)) (p,q)).1∈l)/\((l.foldl (fun(b:Int×Int) n=>(min b.1 n,max b.2 n)) (p,q)).2=q\/(l.foldl (fun(b:Int×Int) n=>(min b.1 n,max b.2 n)) (p,q)).2∈l)/\(l.foldl (fun(b:Int×Int) n=>(min b.1 n,max b.2 n)) (p,q)).1<=p/\q<=(l.foldl (fun(b:Int×Int) n=>(min b.1 n,max b.2 n)) (p,q)).2/\∀y∈l,(l.foldl (fun(b:Int×Int) n=>(min b.1 n,max b.2 n)) (p,q)).1<=y/\y<=(l.foldl (fun(b:Int×Int) n=>(min b.1 n,max b.2 n)) (p,q)).2:=by
    intro l
    induction l with
    | nil=>intro p q hpq;exact⟨.inl rfl,.inl rfl,Int.le_refl _,Int.le_refl _,fun y hy=>by cases hy⟩
    | cons n l ih =>
      intro p q hpq;rw[List.foldl_cons];obtain⟨h1,h2,h3,h4,h5⟩:=ih (min p n) (max q n) (by omega)
      generalize l.foldl (fun(b:Int×Int) n=>(min b.1 n,max b.2 n)) (min p n,max q n)=B at *
      refine⟨?_,?_,by omega,by omega,?_⟩
      ·rcases h1 with h1|h1
       ·by_cases e:p<=n
        ·left;omega
        ·right;rw[show B.1=n by omega];exact List.mem_cons_self
       ·right;exact List.mem_cons_of_mem _ h1
      ·rcases h2 with h2|h2
       ·by_cases e:n<=q
        ·left;omega
        ·right;rw[show B.2=n by omega];exact List.mem_cons_self
       ·right;exact List.mem_cons_of_mem _ h2
      ·intro y hy;rcases List.mem_cons.1 hy with rfl|hy
       ·omega
       ·exact h5 y hy
   obtain⟨h1,h2,h3,h4,h5⟩:=key l x x (Int.le_refl _);refine⟨?_,?_,?_⟩
   ·rcases h1 with h1|h1
    ·rw[h1];exact List.mem_cons_self
    ·exact List.mem_cons_of_mem _ h1
   ·rcases h2 with h2|h2
    ·rw[h2];exact List.mem_cons_self
    ·exact List.mem_cons_of_mem _ h2
   ·intro y hy;rcases List.mem_cons.1 hy with rfl|hy
    ·exact⟨h3,h4⟩
    ·exact h5 y hy
theorem YE(l:List Int)(h:l≠[]):qdZ (qN l)=.agg #[.int .i64 (ym l).1,.int .i64 (ym l).2]:=by
 obtain⟨h1,h2,h3⟩:=bandF_is l h;have hp:=QU l;have hm:=Qd l
 have hne:0<(qN l).length:=by
  have:=(hm _).2 h1;exact List.length_pos_of_mem this
 obtain⟨i,hi,e1⟩:=List.mem_iff_getElem.1 ((hm _).2 h1);obtain⟨j,hj,e2⟩:=List.mem_iff_getElem.1 ((hm _).2 h2);have hpp:=List.pairwise_iff_getElem.1 hp
 have hi0:i=0:=by
  by_cases e:i=0
  ·exact e
  ·have h4:=hpp 0 i hne hi (by omega);have h5:=(h3 _ ((hm _).1 (List.getElem_mem hne))).1;omega
 have hj0:j=(qN l).length-1:=by
  by_cases e:j=(qN l).length-1
  ·exact e
  ·have h4:=hpp j ((qN l).length-1) hj (by omega) (by omega);have h5:=(h3 _ ((hm _).1 (List.getElem_mem (show(qN l).length-1<(qN l).length by omega)))).2;omega
 unfold qdZ;rw[List.getD_eq_getElem?_getD,qM hne,List.getD_eq_getElem?_getD,qM (show(qN l).length-1<(qN l).length by omega)];subst hi0;subst hj0;simp only[Option.getD_some,e1,e2]
def Yd(D:DayM):List Int:=(zy D).map fun u=>YX D (setOf (qC u))
def Yc(D:DayM)(g:Nat)(t:Int):List Int:=(zy D).map fun u=>Yh D (u.getD g 0) (qD D (setOf (qC u))) g t
theorem ord_ws3{D:DayM}(hok:DayOK D)(c:CalM):(qK D c).ws.length<=3:=by
 by_cases h:0<(qK D c).ws.length
 ·exact hok.ws _ (Yu h)
 ·omega
theorem qek{D:DayM}(hok:DayOK D)(s:PastM)(k:Nat)(hk:k<D.cs.length):-1<=(qD D (setOf s)).getD k 0/\(qD D (setOf s)).getD k 0<=2:=by
 have hk1:k<(qD D (setOf s)).length:=by rw[qH];exact hk
 have e:(qD D (setOf s))[k]? = some (qD D (setOf s))[k]:=qM hk1;have e2:D.cs[k]? = some D.cs[k]:=qM hk;have h1:=Zf D _ e e2;have h2:=Jz D s _ (List.getElem_mem hk1);have h3:=ord_ws3 hok D.cs[k];rw[List.getD_eq_getElem?_getD,e];show -1<=(qD D (setOf s))[k]/\(qD D (setOf s))[k]<=2;omega
theorem qcg(D:DayM)(hg:D.gs.length<=4)(k:Nat):yP D k=qN ((zy D).map fun u=>(qD D (setOf (qC u))).getD k 0):=by
 unfold yP;rw[<-yQ D hg,List.map_map];rfl
theorem qdE{D:DayM}(hok:DayOK D)(hne:zy D≠[]):qdZ (qai D)=.agg #[.int .i64 (ym (Yd D)).1,.int .i64 (ym (Yd D)).2]:=by
 have e:qai D=qN (Yd D):=by
  show qN _=_;unfold Yd;rw[<-yQ D hok.gs,List.map_map];rfl
 rw[e];exact YE _ (by unfold Yd;simpa using hne)
theorem qdC{D:DayM}(hok:DayOK D)(hne:zy D≠[])(g:Nat)(hg:g<D.gs.length)(t:Int):qdZ (JX D g t)=.agg #[.int .i64 (ym (Yc D g t)).1,.int .i64 (ym (Yc D g t)).2]:=by
 have hg4:=hok.gs
 have e:JX D g t=qN (Yc D g t):=by
  show qN _=_;unfold Yc;rw[<-yQ D hok.gs,List.map_map];congr 1;refine List.map_congr_left fun u _=>?_;show qbh D g t (qC u)=_;unfold qbh YU Yh;rw[yB u (by omega)]
 rw[e];exact YE _ (by unfold Yc;simpa using hne)
theorem qdt{D:DayM}(hok:DayOK D)(h:(qx D).length≠0):zy D≠[]:=fun e=>h (by rw[<-yQ D hok.gs,e];rfl)
theorem qcl(l m:List Int)(la ma:Option Addr)(lc mc:Nat)(w:World)(hll:l.length<=100)(hml:m.length<=100)(hlc:l.length<=lc)(hmc:m.length<=mc)(hl:qi w 1 encI la l)(hm:qi w 1 encI ma m)(h1:l.Pairwise fun x y=>x<y)(h2:∀x,x∈l↔x∈m) :
 Calls qp 36 #[.slice la l.length lc,.slice ma m.length mc] w fun e w'=>e=.returned (.bool true)/\Below w.heap.size w w':=by
 have hh1:=fun(x:Int) (hx:x∈l) V (hB:Below w.heap.size w V)=>xV ma mc m x hml hmc V (hm.keep hB);have hh2:=fun(x:Int) (hx:x∈m) V (hB:Below w.heap.size w V)=>xV la lc l x hll hlc V (hl.keep hB);have e1:∀x,x∈l->Jn m x=true:=fun x hx=>List.any_eq_true.2 ⟨x,(h2 x).1 hx,by simp⟩;have e2:∀x,x∈m->Jn l x=true:=fun x hx=>List.any_eq_true.2 ⟨x,(h2 x).2 hx,by simp⟩;have HN1:Hid (∀x∈l,∀V,Below w.heap.size w V->Calls qp 35 #[.slice ma m.length mc,.int .i64 x] V fun e w'=>e=.returned (.bool true)/\V=w'):=qd fun x hx V hB=>by have h:=hh1 x hx V hB;rw[e1 x hx]at h;exact h
 have HN2:Hid (∀x∈m,∀V,Below w.heap.size w V->Calls qp 35 #[.slice la l.length lc,.int .i64 x] V fun e w'=>e=.returned (.bool true)/\V=w'):=qd fun x hx V hB=>by have h:=hh2 x hx V hB;rw[e2 x hx]at h;exact h
 have HL:=qd hl;have HM:=qd hm;have HP:=qd h1;clear hh1 hh2 e1 e2 hl hm h1 h2;obtain⟨X,hX⟩:∃X,X=w:=⟨_,rfl⟩;subst hX;go_enter (sf 36 f36),ntmps36;go_wp2;go_loopw [5] (fun i wr=>∃k:Nat,i=.int .i64 k/\k<=l.length/\Hid (Below X.heap.size X wr)) (fun i _=>l.length-(intOf i).toNat);case atStart=>exact⟨0,rfl,Nat.zero_le _,qd (Below.refl _ _)⟩
 case round =>
  obtain⟨k,rfl,hk,HB⟩:=hrel;by_cases hlt:k<l.length
  ·obtain⟨x,hx⟩:∃x,l[k]? = some x:=⟨_,qM hlt⟩;obtain⟨b,o,rfl,hQ⟩:=HL.out (by omega);have c0:=qb _ HB.out (hQ k x hx 0 _ rfl);simp only[Nat.mul_one,Nat.add_zero]at c0;have hk1:(k:Int)<(l.length:Int):=(by omega);have hk2:(k:Int)<=(lc:Int):=(by omega);have HN:=qd (HN1.out x (qI hx));by_cases h0:k=0
   ·subst h0;clear hQ hx;go_upto_region 4 with fail;refine wp_region_held_drew (S:=(RHL [(⟨b,o,none⟩,.int .i64 x)] X)) (by kernel_rfl) (by exact RHL.drew ⟨c0,HB.out⟩) (fun hHeld=>?_);refine tk 0 ?_;refine tk 1 ?_;refine tk 2 ?_;refine tkS 3 ?_;refine tkS 4 ?_;refine tkS 5 ?_;refine tkS 6 ?_;refine tkS 7 ?_;refine tkS 8 ?_;refine tkS 9 ?_;refine tkS 10 ?_;refine tkS 11 ?_;refine tkS 12 ?_;refine tk 13 ?_;refine tk 14 ?_;refine tk 15 ?_;refine tk 16 ?_;refine tk 17 ?_;refine tk 18 ?_;(refine tk 19 ?_;try simp only[zs,Act.put]);refine tkR 20 fun K hK=>?_;go_simp;go_wp2_with (go_at_call 35;(with_reducible refine(HN.out _ (RHL.bel hHeld)).mono ?_);rintro e V ⟨rfl,rfl⟩);refine hK.out _ _ (by exact hHeld) (fun hHeldN=>?_);clear hK K hHeld;have hHeld:=hHeldN;clear hHeldN;(try simp only[zs,Act.put]);refine tk 21 ?_;(refine tk 22 ?_;try simp only[zs,Act.put]);refine wpAnyH_done (by kernel_rfl) ?_ _;(try simp only[zs,Act.put]);have hBz:=RHL.bel hHeld;clear hHeld;go_wp2;go_roundw;(case rel=>exact⟨0+1,rfl,by omega,qd hBz⟩);case measure=>simp[intOf];omega
   ·obtain⟨j,rfl⟩:∃j,k=j+1:=⟨k-1,by omega⟩;obtain⟨y,hy⟩:∃y,l[j]? = some y:=⟨_,qM (by omega)⟩;have d0:=qb _ HB.out (hQ j y hy 0 _ rfl);simp only[Nat.mul_one,Nat.add_zero]at d0
    have hxy:¬x<=y:=by
     obtain⟨g1,g2⟩:=qB hx;obtain⟨g3,g4⟩:=qB hy;have:=List.pairwise_iff_getElem.1 HP.out j (j+1) g3 g1 (by omega);omega
    have hj0:(0:Int)<((j:Int)+1):=(by omega);have hjw:IntKind.i64.wrap (j:Int)=(j:Int):=(by rw[IntKind.wrap_i64];omega);have hj1:(0:Int)<=(j:Int):=Int.natCast_nonneg j;have hj4:(0:Int)<=(j:Int)+1:=(by omega);have hj2:(j:Int)<(l.length:Int):=(by omega);have hj3:(j:Int)<=(lc:Int):=(by omega);clear hQ hx hy h0;go_upto_region 4 with fail;refine wp_region_held_drew (S:=(RHL [(⟨b,o+(j+1),none⟩,.int .i64 x),(⟨b,o+j,none⟩,.int .i64 y)] X)) (by kernel_rfl) (by exact RHL.drew ⟨c0,d0,HB.out⟩) (fun hHeld=>?_);refine tk 0 ?_;refine tk 1 ?_;refine tk 2 ?_;refine tk 3 ?_;refine tk 4 ?_;refine tk 5 ?_;refine tk 6 ?_;refine tk 7 ?_;refine tk 8 ?_;refine tk 9 ?_;refine tk 10 ?_;refine tk 11 ?_;refine tk 12 ?_;refine tk 13 ?_;refine tk 14 ?_;refine tk 15 ?_;refine tk 16 ?_;refine tk 17 ?_;refine tk 18 ?_;(refine tk 19 ?_;try simp only[zs,Act.put]);refine tkR 20 fun K hK=>?_;go_simp;go_wp2_with (go_at_call 35;(with_reducible refine(HN.out _ (RHL.bel hHeld)).mono ?_);rintro e V ⟨rfl,rfl⟩);refine hK.out _ _ (by exact hHeld) (fun hHeldN=>?_);clear hK K hHeld;have hHeld:=hHeldN;clear hHeldN;(try simp only[zs,Act.put]);refine tk 21 ?_;(refine tk 22 ?_;try simp only[zs,Act.put]);refine wpAnyH_done (by kernel_rfl) ?_ _;(try simp only[zs,Act.put]);have hBz:=RHL.bel hHeld;clear hHeld hjw;go_wp2;go_roundw;(case rel=>exact⟨j+1+1,rfl,by omega,qd hBz⟩);case measure=>simp[intOf];omega
  ·obtain rfl:k=l.length:=(by omega);clear hk hlt;go_wp2;go_loopw [6] (fun i wr=>∃k:Nat,i=.int .i64 k/\k<=m.length/\Hid (Below X.heap.size X wr)) (fun i _=>m.length-(intOf i).toNat);case atStart=>exact⟨0,rfl,Nat.zero_le _,HB⟩
   case round =>
    obtain⟨k,rfl,hk,HB2⟩:=hrel;by_cases hlt:k<m.length
    ·obtain⟨x,hx⟩:∃x,m[k]? = some x:=⟨_,qM hlt⟩;obtain⟨b,o,rfl,hQ⟩:=HM.out (by omega);have c0:=qb _ HB2.out (hQ k x hx 0 _ rfl);simp only[Nat.mul_one,Nat.add_zero]at c0;have hk1:(k:Int)<(m.length:Int):=(by omega);have hk2:(k:Int)<=(mc:Int):=(by omega);have HN:=qd (HN2.out x (qI hx) _ HB2.out);clear hQ hx;go_wp2_with (go_at_call 35;(with_reducible refine HN.out.mono ?_);rintro e V ⟨rfl,rfl⟩);go_roundw;(case rel=>exact⟨k+1,rfl,by omega,HB2⟩);case measure=>simp[intOf];omega
    ·obtain rfl:k=m.length:=(by omega);go_wp2;go_ret;exact⟨rfl,HB2.out⟩
theorem qbH(D:DayM)(m:Option Nat)(cb:Nat)(call:Int)(w:World)(hc:w.cell? ⟨cb,0,none⟩=some (.int .i64 call))(hl:D.gs.length<=20) :
 Calls qp 82 #[dm D m,pt cb] w fun e w'=>e=.returned (.int .i64 (za call D.gs.length))/\Below w.heap.size w w':=by
 have hix:=fun W=>jO call D.gs.length W (by omega) (by omega);unfold dm
 generalize Value.slice D.ta D.ts.length D.tc=x0 at *
 generalize Value.slice D.oa D.os.length D.oc=x2 at *
 generalize Value.slice D.ha D.hs.length D.hc=x3 at *
 generalize Value.slice D.ca D.cs.length D.cc=x4 at *
 have hb:=lt_of_cell hc;simp only at hb;go_enter (sf 82 f82),ntmps82;go_wp2_with (go_at_call 44;(with_reducible refine(hix _).mono ?_);rintro e w1 ⟨rfl,rfl⟩);go_ret;exact⟨rfl,by go_grown⟩
theorem qbI(D:DayM)(M:Nat)(A:Nat->Prop)(w0 w:World)(h:St D M A w0 w)(cb:Nat)(k:Nat)(hc:w.cell? ⟨cb,0,none⟩=some (.int .i64 k))(hk:k<4)(p:PastM) :
 Calls qp 83 #[pvP p,pt cb] w fun e w'=>e=.returned (.int .i64 (p.get k))/\St D M A w0 w'/\w.grownBy w' (some M):=by
 have hcell:∀W:World,W.cell? ⟨w.heap.size,0,none⟩=some (.int .i64 p.a)->W.cell? ⟨w.heap.size,1,none⟩=some (.int .i64 p.b)->W.cell? ⟨w.heap.size,2,none⟩=some (.int .i64 p.c)->W.cell? ⟨w.heap.size,3,none⟩=some (.int .i64 p.d)->W.cell? ⟨w.heap.size,k,none⟩=some (.int .i64 (p.get k)):=by
  intro W h0 h1 h2 h3
  match k,hk with
  | 0,_=>exact h0
  | 1,_=>exact h1
  | 2,_=>exact h2
  | 3,_=>exact h3
 have hb:=lt_of_cell hc;simp only at hb;obtain⟨R,hR⟩:∃R,p.get k=R:=⟨_,rfl⟩;rw[hR]at hcell⊢;have HST:=qd h;clear h hR;unfold pvP;obtain⟨pa,pb,pc,pd⟩:=p
 simp only at *
 have hk0:(0:Int)<=(k:Int):=Int.natCast_nonneg k;have hk1:(k:Int)<4:=by omega
 go_enter (sf 83 f83),ntmps83;obtain⟨W,hW⟩:∃W,w.alloc (Obj.cells #[.int .i64 pa,.int .i64 pb,.int .i64 pc,.int .i64 pd] 81)=W:=⟨_,rfl⟩;have hpg:W.cell? ⟨w.heap.size,k,none⟩=some (.int .i64 R):=by subst hW;exact hcell _ (by go_cell) (by go_cell) (by go_cell) (by go_cell)
 have hcW:W.cell? ⟨cb,0,none⟩=some (.int .i64 k):=by subst hW;go_cell
 have hBW:Below w.heap.size w W:=by subst hW;go_grown
 have hGW:w.grownBy W (some M):=qo hBW;clear hcell;go_upto_region 1 with fail;try rw[hW]
 clear hW;go_wp2;go_ret;exact⟨rfl,HST.out.keep (by go_grown),by first|exact hGW|exact qo (by go_grown)⟩
def xU(D:DayM)(k:Nat):List Int:=qN ((qx D).map fun p=>p.get k)
def XX(D:DayM)(call:Int)(w:World)(e:Ending)(w':World):Prop :=
 Below w.heap.size w w'/\((zt D (za call D.gs.length)≠0/\e=.returned (.tuple #[.slice none 0 0,.int .i64 (zt D (za call D.gs.length))])) \/
 (zt D (za call D.gs.length)=0/\∃a c,e=.returned (.tuple #[.slice a (xU D call.toNat).length c,.int .i64 0])/\(xU D call.toNat).length<=c/\qi w' 1 encI a (xU D call.toNat)))
theorem XQ(D:DayM)(w:World)(h:DayAt w D)(hs:DaySm D)(hG:Globs w)(call:Int):Calls qp 29 #[dv D,.int .i64 call] w (XX D call w):=by
 have hcl:=hs.gs.1;obtain⟨W,hW⟩:∃W,(w.alloc (Obj.cells #[.slice D.ta D.ts.length D.tc,.slice D.ga D.gs.length D.gc,.slice D.oa D.os.length D.oc,.slice D.ha D.hs.length D.hc,.slice D.ca D.cs.length D.cc] 28)).alloc (Obj.cells #[.int .i64 call] 3)=W:=⟨_,rfl⟩;have hBW:Below w.heap.size w W:=by subst hW;go_grown
 have hsW:W.heap.size=w.heap.size+2:=by subst hW;simp
 have k0:W.cell? ⟨w.heap.size,0,none⟩=some (.slice D.ta D.ts.length D.tc):=by subst hW;go_cell
 have k1:W.cell? ⟨w.heap.size,1,none⟩=some (.slice D.ga D.gs.length D.gc):=by subst hW;go_cell
 have k2:W.cell? ⟨w.heap.size,2,none⟩=some (.slice D.oa D.os.length D.oc):=by subst hW;go_cell
 have k3:W.cell? ⟨w.heap.size,3,none⟩=some (.slice D.ha D.hs.length D.hc):=by subst hW;go_cell
 have k4:W.cell? ⟨w.heap.size,4,none⟩=some (.slice D.ca D.cs.length D.cc):=by subst hW;go_cell
 have kc:W.cell? ⟨w.heap.size+1,0,none⟩=some (.int .i64 call):=by subst hW;go_cell
 have hask:=yF D W (h.keep hBW) hs (hG.keep hBW) 82 #[pt (w.heap.size+1)] (cE 82 (by decide +kernel)) (za call D.gs.length) (fun M V hM hB=>qbH D (some M) (w.heap.size+1) call V (qb _ hB kc) hcl);obtain⟨al,hal⟩:∃al,za call D.gs.length=al:=⟨_,rfl⟩;unfold XX;rw[hal]at hask⊢;have hdv:dv D=.agg #[.slice D.ta D.ts.length D.tc,.slice D.ga D.gs.length D.gc,.slice D.oa D.os.length D.oc,.slice D.ha D.hs.length D.hc,.slice D.ca D.cs.length D.cc]:=rfl;rw[hdv]at hask⊢;have HD:=qd (qg h (qg hs hal));clear h hs hG hdv hal;by_cases ha:zt D al=0
 ·have hz:=yj ha;have hix:=Qg (HD.out.2.2.trans hz.2);have hok:=hask.mono (fun e w' h=>h.ok ha);have HA:=qd ha;have HZ:=qd hz.1;clear hask ha hz;go_enter (sf 29 f29),ntmps29;go_upto_region 1 with fail;try rw[hW]
  clear hW;unfold dm at hok;go_upto_region 4 with(go_at_call 42;(with_reducible refine hok.mono ?_);rintro e w1 ⟨M,a,c,rfl,hpos,hlc,hrow,hfr,hst⟩;have hs1:=hst.bel.size);obtain⟨k,rfl⟩:=Int.eq_ofNat_of_zero_le hix.1;have hBV:=(Below.refl w1.heap.size w1).alloc ql (Obj.cells #[.slice D.ta D.ts.length D.tc,.slice D.ga D.gs.length D.gc,.slice D.oa D.os.length D.oc,.slice D.ha D.hs.length D.hc,.slice D.ca D.cs.length D.cc,.map (some M)] 73);obtain⟨V,hV⟩:∃V,w1.alloc (Obj.cells #[.slice D.ta D.ts.length D.tc,.slice D.ga D.gs.length D.gc,.slice D.oa D.os.length D.oc,.slice D.ha D.hs.length D.hc,.slice D.ca D.cs.length D.cc,.map (some M)] 73)=V:=⟨_,rfl⟩;rw[hV]at hBV⊢;have h4:=(qY D HZ.out).gs;have hsV:=hst.keep hBV;have hrV:=hrow.keep hBV;have kcV:=qb _ hsV.bel kc;have hga:=Qc D M (fun _=>False) W V hsV (fun b hb=>hb.elim) 83 #[pt (w.heap.size+1)] (cE 83 (by decide +kernel)) (fun p=>p.get k) (qx D) a c hpos (by have:=zb HZ.out;omega) hlc hrV (fun x hx A V2 hS hA hg=>qbI D M A W V2 hS (w.heap.size+1) k (hsV.cell hg kcV) (by omega) x);have HF:=qd (qg hBW hsV);clear hBV hV hrow hrV kcV hst hok hfr k0 k1 k2 k3 k4 kc h4;go_wp2_with (go_at_call 45;(with_reducible refine hga.mono ?_);rintro e w2 ⟨a2,c2,rfl,hl2,hr2,hf2,hst2,hg2⟩)
  go_ret2
  exact⟨Below.call HF.out.1 hst2.bel (by omega),.inr ⟨HA.out,a2,c2,rfl,hl2,hr2⟩⟩
 ·have hbad:=hask.mono (fun e w' h=>h.bad ha);have hb:(zt D al != 0)=true:=by simpa using ha
  unfold dz at hbad;have HA:=qd ha;clear hask ha
  generalize zt D al=r at *
  go_enter (sf 29 f29),ntmps29;go_upto_region 1 with fail;try rw[hW]
  clear hW;go_wp2_with (go_at_call 42;(with_reducible refine hbad.mono ?_);rintro e w1 ⟨rfl,hB1⟩;have hs1:=hB1.size)
  go_ret2
  exact⟨Below.call hBW (by go_grown) (by omega),.inl ⟨HA.out,rfl⟩⟩
end Go.Proofs.Tryz
namespace Go.Proofs.Tryz
open Go Go.Load Go.LoadR Go.RowKit Go.Maps
structure P2 (B:Nat) (wr:World) (v1:Value) (l1:List Int) (v2:Value) (l2:List Int):Prop where
 o1:wr.ownsRow B 3 1 v1 l1.length (l1.map (.int .i64))
 o2:wr.ownsRow B 3 1 v2 l2.length (l2.map (.int .i64))
 ne:∀b,v1.ownBlock=some b->v2.ownBlock≠some b
section
variable {B:Nat} {wr X1 Y1 X2 Y2:World} {v1 v2:Value} {l1 l2:List Int}
theorem P2.keep(h:P2 B wr v1 l1 v2 l2)(hB:Below wr.heap.size wr X1):P2 B X1 v1 l1 v2 l2:=⟨qV h.o1 hB,qV h.o2 hB,h.ne⟩
theorem P2.own2(h:P2 B wr v1 l1 v2 l2)(e1:Below wr.heap.size wr X1)(q1:X1.grownBy Y1 v1.ownBlock)(e2:Below Y1.heap.size Y1 X2):X2.ownsRow B 3 1 v2 l2.length (l2.map (.int .i64)):=by
 refine qV ((qV h.o2 e1).kept q1 ?_) e2
 cases ht:v2.ownBlock with
 | none=>exact .inl rfl
 | some b=>right;intro e;exact h.ne b e.symm ht
theorem P2.step{x y:Int}{g1 g2 c1 c2:Nat}(h:P2 B wr v1 l1 v2 l2)(hBw:B<=wr.heap.size)(e1:Below wr.heap.size wr X1)(q1:X1.grownBy Y1 v1.ownBlock)
 (n1:Y1.ownsRow B 3 1 (.slice (some ⟨g1,0,none⟩) (l1.length+1) c1) (l1.length+1) (l1.map (.int .i64)++[.int .i64 x])) (a1:v1.ownBlock=some g1\/g1=X1.heap.size)
 (e2:Below Y1.heap.size Y1 X2) (q2:X2.grownBy Y2 v2.ownBlock)
 (n2:Y2.ownsRow B 3 1 (.slice (some ⟨g2,0,none⟩) (l2.length+1) c2) (l2.length+1) (l2.map (.int .i64)++[.int .i64 y])) (a2:v2.ownBlock=some g2\/g2=X2.heap.size) :
 P2 B Y2 (.slice (some ⟨g1,0,none⟩) (l1.length+1) c1) (l1++[x]) (.slice (some ⟨g2,0,none⟩) (l2.length+1) c2) (l2++[y])/\Below B wr Y2:=by
 have k1:=h.o1.lt;have k2:=h.o2.lt;have m1:=n1.lt g1 rfl;have m2:=n2.lt g2 rfl;have s1:=e1.size;have s2:=q1.size;have s3:=e2.size;have s4:=q2.size
 have hg:g1≠g2:=by
  rcases a1 with a1|a1<;>rcases a2 with a2|a2
  ·intro e;subst e;exact h.ne _ a1 a2
  ·have:=(k1 _ a1).2;omega
  ·have:=(k2 _ a2).2;omega
  ·omega
 have hg1t:v2.ownBlock≠some g1:=by
  intro e;rcases a1 with a1|a1
  ·exact h.ne _ a1 e
  ·have:=(k2 _ e).2;omega
 refine⟨⟨?_,?_,?_⟩,?_⟩
 ·have o:=(qV n1 e2).kept q2 (.inr fun e=>hg1t e.symm);simpa using o
 ·simpa using n2
 ·intro b hb e;have e1:g1=b:=qz hb;have e2:g2=b:=qz e;omega
 ·have b1:Below B wr X1:=e1.mono hBw;have b2:Below B wr Y1:=b1.grown q1 (by omega) (fun j hj=>(k1 j hj).1);have b3:Below B wr X2:=b2.trans (e2.mono (by omega));exact b3.grown q2 (by omega) (fun j hj=>(k2 j hj).1)
theorem P2.put(h:P2 B wr v1 l1 v2 l2)(p:Addr)(v:Value)(hp:p.block<B):P2 B (wr.setCell p v) v1 l1 v2 l2:=by
 have k1:=h.o1.lt;have k2:=h.o2.lt
 have f:∀(u:Value),(∀b,u.ownBlock=some b->B<=b)->u.ownBlock=none\/u.ownBlock≠some p.block:=fun u hu=>by
  cases hb:u.ownBlock with
  | none=>exact .inl rfl
  | some b=>right;intro e;have:=hu b hb;have e2:b=p.block:=qz e;omega
 exact⟨h.o1.kept (jm _ _ _) (f _ fun b hb=>(k1 b hb).1),h.o2.kept (jm _ _ _) (f _ fun b hb=>(k2 b hb).1),h.ne⟩
end
structure BX (W:World) (b:Nat) (p q:Int):Prop where
 c0:W.cell? ⟨b,0,none⟩=some (.int .i64 p)
 c1:W.cell? ⟨b,1,none⟩=some (.int .i64 q)
 f0:W.frozen? ⟨b,0,none⟩=false
 f1:W.frozen? ⟨b,1,none⟩=false
theorem BX.keep{W W1:World}{b:Nat}{p q:Int}(h:BX W b p q)(hB:Below W.heap.size W W1):BX W1 b p q:=⟨qb _ hB h.c0,qb _ hB h.c1,qf _ hB h.c0 h.f0,qf _ hB h.c1 h.f1⟩
theorem BX.grown{W W1:World}{b:Nat}{p q:Int}{r:Option Nat}(h:BX W b p q)(g:W.grownBy W1 r)(hn:some b≠r):BX W1 b p q:=⟨g.cell h.c0 hn,g.cell h.c1 hn,by rw[g.frozen_far ⟨b,0,none⟩ (lt_of_cell h.c0) hn];exact h.f0,by rw[g.frozen_far ⟨b,1,none⟩ (lt_of_cell h.c1) hn];exact h.f1⟩
theorem BX.new(W:World)(p q:Int)(t:TypeId):BX (W.alloc (Obj.cells #[.int .i64 p,.int .i64 q] t)) W.heap.size p q:=⟨by go_cell,by go_cell,by go_cell,by go_cell⟩
def put22(W:World)(b c:Nat)(p q r s:Int):World:=(((W.setCell ⟨b,0,none⟩ (.int .i64 p)).setCell ⟨b,1,none⟩ (.int .i64 q)).setCell ⟨c,0,none⟩ (.int .i64 r)).setCell ⟨c,1,none⟩ (.int .i64 s)
theorem Xc{W:World}{b c:Nat}{p q r s p' q' r' s':Int}(h:BX W b p' q')(k:BX W c r' s')(hn:b≠c):BX (put22 W b c p q r s) b p q/\BX (put22 W b c p q r s) c r s:=by
 have a0:(put22 W b c p q r s).cell? ⟨b,0,none⟩=some (.int .i64 p):=qj (qj (qj (qA (qL h.c0)) (.inr (by simp))) (.inl hn)) (.inl hn);have a1:(put22 W b c p q r s).cell? ⟨b,1,none⟩=some (.int .i64 q):=qj (qj (qA (qR (qL h.c1))) (.inl hn)) (.inl hn);have k0:((W.setCell ⟨b,0,none⟩ (.int .i64 p)).setCell ⟨b,1,none⟩ (.int .i64 q)).cell? ⟨c,0,none⟩=some (.int .i64 r'):=qj (qj k.c0 (.inl (Ne.symm hn))) (.inl (Ne.symm hn));have k1:((W.setCell ⟨b,0,none⟩ (.int .i64 p)).setCell ⟨b,1,none⟩ (.int .i64 q)).cell? ⟨c,1,none⟩=some (.int .i64 s'):=qj (qj k.c1 (.inl (Ne.symm hn))) (.inl (Ne.symm hn));refine⟨⟨a0,a1,?_,?_⟩,⟨qj (qA (qL k0)) (.inr (by simp)),qA (qR (qL k1)),?_,?_⟩⟩
 ·simpa[put22]using h.f0
 ·simpa[put22]using h.f1
 ·simpa[put22]using k.f0
 ·simpa[put22]using k.f1
theorem QL{W0 W:World}{B b c:Nat}(p q r s:Int)(h:Below B W0 W)(hb:B<=b)(hc:B<=c):Below B W0 (put22 W b c p q r s):=(((h.setCell (p:=⟨b,0,none⟩) hb _).setCell (p:=⟨b,1,none⟩) hb _).setCell (p:=⟨c,0,none⟩) hc _).setCell (p:=⟨c,1,none⟩) hc _
theorem P2.put22{B:Nat}{W:World}{v1 v2:Value}{l1 l2:List Int}{b c:Nat}(p q r s:Int)(h:P2 B W v1 l1 v2 l2)(hb:b<B)(hc:c<B):P2 B (put22 W b c p q r s) v1 l1 v2 l2:=(((h.put ⟨b,0,none⟩ _ hb).put ⟨b,1,none⟩ _ hb).put ⟨c,0,none⟩ _ hc).put ⟨c,1,none⟩ _ hc
theorem jC{α:Type}{l:List α}{k:Nat}{x:α}(f:α->Int)(h:l[k]? = some x):(l.map f).take (k+1)=(l.map f).take k++[f x]:=by
 have h9:(l.map f)[k]? = some (f x):=by rw[List.getElem?_map,h];rfl
 obtain⟨h8,h7⟩:=qB h9;rw[List.take_succ_eq_append_getElem h8,h7]
theorem qaG{α:Type}{l:List α}{k:Nat}(f:α->Int)(h:k<=l.length):((l.map f).take k).length=k:=by rw[List.length_take,List.length_map];omega
theorem JK{α:Type}{l:List α}{k:Nat}{x:α}(f:α->Int)(h:l[k]? = some x):ym ((l.map f).take (k+1))=if k=0 then(f x,f x)else(min (ym ((l.map f).take k)).1 (f x),max (ym ((l.map f).take k)).2 (f x)):=by
 rw[jC f h,qdY,qaG f (by have:=(qB h).1;omega)]
theorem qdx{D:DayM}(hok:DayOK D)(hne:zy D≠[])(k:Nat)(hk:k<D.cs.length):∃so:Bool,Jn ((zy D).map fun u=>(qD D (setOf (qC u))).getD k 0) (-1)=so/\((so=false/\refN (yP D k)=2)\/(so=true/\(yP D k).length=1/\refN (yP D k)=1)\/(so=true/\(yP D k).length≠1/\refN (yP D k)=0)):=by
 have e:=qcg D hok.gs k;obtain⟨Wl,hW⟩:∃Wl,((zy D).map fun u=>(qD D (setOf (qC u))).getD k 0)=Wl:=⟨_,rfl⟩
 have hge:∀x∈Wl,-1<=x:=fun x hx=>by
  rw[<-hW]at hx;obtain⟨u,_,rfl⟩:=List.mem_map.1 hx;exact(qek hok (qC u) k hk).1
 have hWn:Wl≠[]:=by rw[<-hW];simpa using hne
 rw[hW]at e;rw[hW];have hm:=Qd Wl;have hlt:=QU Wl;have hpos:0<(qN Wl).length:=jl (List.length_pos_iff.2 hWn);rw[<-e]at hm hlt hpos
 generalize yP D k=Y at *
 refine⟨Jn Wl (-1),rfl,?_⟩
 cases Y with
 | nil=>simp at hpos
 | cons a Y =>
   have hin:Jn Wl (-1)=true↔a=-1:=by
    unfold Jn;rw[List.any_eq_true];constructor
    ·rintro⟨x,hx,h⟩;have hx1:x=-1:=(by simpa using h);subst hx1;rcases List.mem_cons.1 ((hm _).2 hx)with h|h
     ·exact h.symm
     ·have h1:=(List.pairwise_cons.1 hlt).1 _ h;have h2:=hge a ((hm a).1 List.mem_cons_self);omega
    ·rintro rfl;exact⟨-1,(hm _).1 List.mem_cons_self,by simp⟩
   unfold refN;by_cases ha:a=-1
   ·have h1:=hin.2 ha;subst ha;right;by_cases hl:((-1:Int)::Y).length=1
    ·left;exact⟨h1,hl,by rw[if_neg (by simp),if_pos hl]⟩
    ·right;exact⟨h1,hl,by rw[if_neg (by simp),if_neg hl]⟩
   ·left;refine⟨?_,by rw[if_pos (by simpa using ha)]⟩
    cases hb:Jn Wl (-1)with
    | false=>rfl
    | true=>exact absurd (hin.1 hb) ha
theorem JF{D:DayM}(hz:checkN D=0)(k:Nat)(hk:k<D.gs.length):xU D k=qN ((zy D).map fun u=>u.getD k 0):=by
 have h4:=(qY D hz).gs;unfold xU;rw[<-yQ D h4,List.map_map];congr 1;refine List.map_congr_left fun u _=>?_;exact yB u (by omega)
theorem XI(l:List Int)(h:l.length<=100):(qN l).length<=100:=Nat.le_trans (Qb l) h
end Go.Proofs.Tryz
namespace Go.Proofs.Tryz
open Go Go.Load Go.LoadR Go.RowKit
theorem qaj(P:List Int)(a:Option Addr)(c:Nat)(hl:P.length<=20)(hlc:P.length<=c)(w:World)(hr:qi w 1 encI a P):Calls qp 33 #[.slice a P.length c] w fun e w'=>e=.returned (.int .i64 ((P.countP fun k=>k == -1:Nat):Int))/\w=w':=by
 obtain⟨R,hR⟩:∃R,((P.countP fun k=>k == -1:Nat):Int)=R:=⟨_,rfl⟩;rw[hR];have HR:=qd hR;have HX:=qd hr;clear hR hr;go_enter (sf 33 f33),ntmps33;go_wp2;obtain⟨X,hX⟩:∃X,X=w:=⟨_,rfl⟩;subst hX;go_loopw [4,3] (fun i q wr=>∃(k:Nat) (m:Int),i=.int .i64 k/\q=.int .i64 m/\k<=P.length/\0<=m/\m<=k/\wr=X/\Hid (m+((P.drop k).countP fun k=>k == -1:Nat)=R)) (fun i _ _=>P.length-(intOf i).toNat);case atStart=>exact⟨0,0,rfl,rfl,by omega,by omega,by omega,rfl,qd (by rw[<-HR.out];simp)⟩
 case round =>
  obtain⟨k,m,rfl,rfl,hk,hm0,hm1,rfl,HN⟩:=hrel;by_cases hlt:k<P.length
  ·obtain⟨x,hx⟩:∃x,P[k]? = some x:=⟨_,qM hlt⟩;obtain⟨b,o,rfl,hQ⟩:=HX.out (by omega);have c0:=hQ k x hx 0 _ rfl;simp only[Nat.mul_one,Nat.add_zero]at c0;have hk1:(k:Int)<(P.length:Int):=(by omega);have hk2:(k:Int)<=(c:Int):=(by omega);have hN:=HN.out;rw[YO _ hx]at hN;have hwr:wrap64 (m+1)=m+1:=wrap_small (by omega) (by omega);have HN2:=qd hN;clear hQ hx hN;by_cases e1:x=-1
   ·have g1:(x == -1)=true:=(by simp[e1]);go_wp2;go_roundw;(case rel=>exact⟨k+1,m+1,rfl,rfl,by omega,by clear hwr;omega,by clear hwr;omega,(by first|rfl|trivial),qd (by have e:=HN2.out;rw[if_pos g1]at e;clear hwr;omega)⟩);case measure=>simp[intOf];omega
   ·have g1:(x == -1)=false:=(by simpa using e1);go_wp2;go_roundw;(case rel=>exact⟨k+1,m,rfl,rfl,by omega,by clear hwr;omega,by clear hwr;omega,(by first|rfl|trivial),qd (by have e:=HN2.out;rw[if_neg (by simpa using e1)]at e;clear hwr;omega)⟩);case measure=>simp[intOf];omega
  ·obtain rfl:k=P.length:=(by omega);have hN:=HN.out;rw[List.drop_eq_nil_of_le ql,List.countP_nil]at hN;have hN2:m=R:=(by simpa using hN);subst hN2;clear hN HN;go_wp2;go_ret;exact⟨rfl,rfl⟩
end Go.Proofs.Tryz
