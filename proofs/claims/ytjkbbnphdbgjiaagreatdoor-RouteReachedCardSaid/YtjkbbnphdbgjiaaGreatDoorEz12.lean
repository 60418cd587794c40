/-
  Lemmas about the program and the machine (Q44 to Q51), upon which the last text of this claim rests; no condition.
-/
import Derived.Test.YtjkbbnphdbgjiaaGreatDoorEz11
set_option linter.unusedSimpArgs false
set_option linter.unusedVariables false
set_option maxRecDepth 100000
set_option maxHeartbeats 4000000
namespace Go.Proofs.Tryz
open Go Go.Load Go.LoadR Go.RowKit Go.Maps
def leastS(good:Nat->Bool)(best:Option (List Int))(s:Nat):Option (List Int):=match best with
 | none=>if good s then some (QI s)else none
 | some b=>if fewB (QI s) b then(if good s then some (QI s)else some b)else some b
def jQ(good:Nat->Bool)(n:Nat):Option (List Int):=(List.range n).foldl (leastS good) none
theorem qbl(good:Nat->Bool)(n:Nat):jQ good (n+1)=leastS good (jQ good n) n:=by
 unfold jQ;rw[List.range_succ,List.foldl_append];rfl
def BestI(W:World):Option (List Int)->Value->Value->Prop
 | none,q,f=>q=.slice none 0 0/\f=.bool false
 | some l,q,f=>∃a c,q=.slice a l.length c/\f=.bool true/\l.length<=c/\l.length<=8/\qi W 1 encI a l
theorem two_pow:∀n,n<9->IntKind.u64.wrap ((2:Int) ^ n)=((2 ^ n:Nat):Int):=by decide +kernel
theorem wrap_u9{i:Int}(h0:0<=i)(h4:i<=300):IntKind.u64.wrap (i+1)=i+1:=by
 have e:IntKind.u64.wrap (i+1)=(i+1)%18446744073709551616:=rfl;rw[e];omega
theorem qfd(l:Nat):(QI l).length<=8:=XD l 8
theorem qfa(D:DayM)(M:Nat)(A:Nat->Prop)(w0 w:World)(h:St D M A w0 w)(n:Nat)(hn:n<=8)(good:Nat->Bool)(fid:FuncId)(bound:Array Value)(hf:∀(args:Array Value) (w:World),(callFunc fid args).run qp w=.ok (.enter fid args) w)
 (hcall:∀s W,s<256->St D M A w0 W->w.grownBy W (some M)->Calls qp fid (#[.int .u64 s]++bound) W fun e w'=>e=.returned (.bool (good s))/\St D M A w0 w'/\W.grownBy w' (some M)) :
 Calls qp 92 #[.int .i64 n,.func (.func fid) #[] bound] w fun e w'=>∃q f,e=.returned (.tuple #[q,f])/\BestI w' (jQ good (2 ^ n)) q f/\St D M A w0 w'/\w.grownBy w' (some M):=by
 have hn0:(0:Int)<=(n:Int):=Int.natCast_nonneg n;have hni:(n:Int)<=8:=by omega
 have hp:2 ^ n<=256:=Nat.pow_le_pow_right (n:=2) (by decide) hn;have HC:=qd hcall;have HST:=qd h;have hls:=fun s (hs:s<256) W=>qdi s hs W;have HLS:=qd hls;clear hcall h hls;go_enter (sf 92 f92),ntmps92;go_wp2;go_step3;go_wp2;go_step3;go_wp2;rw[two_pow n (by omega)];obtain⟨N,hN⟩:∃N,2 ^ n=N:=⟨_,rfl⟩;rw[hN]at hp⊢;have HN:=qd hN;clear hN hn0 hni hn;go_loopw [10,4,5,6,7] (fun i q f x y wr=>∃(k:Nat) (q' f' x' y':Value),i=.int .u64 k/\q=q'/\f=f'/\x=x'/\y=y'/\k<=N/\Hid (St D M A w0 wr)/\Hid (w.grownBy wr (some M))/\Hid (BestI wr (jQ good k) q' f')) (fun i _ _ _ _ _=>N-(intOf i).toNat);case atStart=>exact⟨0,_,_,_,_,rfl,rfl,rfl,rfl,rfl,by omega,HST,qd (qo (Below.refl _ _)),qd ⟨rfl,rfl⟩⟩
 case round =>
  obtain⟨k,q,f,x6,x7,rfl,rfl,rfl,rfl,rfl,hk,HS,HG,HB⟩:=hrel;by_cases hlt:k<N
  ·have hk256:k<256:=(by omega);have hkN:(k:Int)<(N:Int):=(by omega);have hkN2:¬(N:Int)<=(k:Int):=(by omega);have hwk:IntKind.u64.wrap ((k:Int)+1)=(k:Int)+1:=wrap_u9 (by omega) (by omega);have HS1:=qbl good k;have HSX:=qd HS1;clear HS1 hlt hkN2;have hcl:=fun W (hS:St D M A w0 W) (hG:w.grownBy W (some M))=>HC.out k W hk256 hS hG;obtain⟨args,hargs⟩:∃args,(#[.int .u64 (k:Int)]++bound)=args:=⟨_,rfl⟩;rw[hargs]at hcl;obtain⟨gd,hgd⟩:∃gd,good k=gd:=⟨_,rfl⟩;rw[hgd]at hcl;have HCL:=qd hcl;have hll:=qfd k;clear hcl
   cases hb:jQ good k with
   | none =>
     have hB0:=HB.out;rw[hb]at hB0;obtain⟨rfl,rfl⟩:=hB0;have HX:Hid (jQ good (k+1)=if gd then some (QI k)else none):=qd (by rw[HSX.out,hb,<-hgd];rfl);clear hb HSX hgd HB
     cases gd with
     | true =>
       go_wp2_with (first|(go_at_call 119;(with_reducible refine(HLS.out k hk256 _).mono ?_);rintro e w1 ⟨a1,c1,rfl,hl1,hr1,hf1,hB1⟩;have hs1:=HS.out.keep hB1;have hg1:=qw HG.out (qo hB1))|((first|(rw[hargs])|skip);(with_reducible refine(HCL.out _ hs1 hg1).mono ?_);rintro e w2 ⟨rfl,hs2,hg2⟩;have hr2:=hs1.rows hg2 hr1));go_roundw;(case rel=>exact⟨k+1,_,_,_,_,rfl,rfl,rfl,rfl,rfl,by omega,qd hs2,qd (qw hg1 hg2),qd (by rw[HX.out];exact⟨a1,c1,rfl,rfl,hl1,hll,hr2⟩)⟩);case measure=>simp[intOf];omega
     | false =>
       go_wp2_with (first|(go_at_call 119;(with_reducible refine(HLS.out k hk256 _).mono ?_);rintro e w1 ⟨a1,c1,rfl,hl1,hr1,hf1,hB1⟩;have hs1:=HS.out.keep hB1;have hg1:=qw HG.out (qo hB1))|((first|(rw[hargs])|skip);(with_reducible refine(HCL.out _ hs1 hg1).mono ?_);rintro e w2 ⟨rfl,hs2,hg2⟩;have hr2:=hs1.rows hg2 hr1));go_roundw;(case rel=>exact⟨k+1,_,_,_,_,rfl,rfl,rfl,rfl,rfl,by omega,qd hs2,qd (qw hg1 hg2),qd (by rw[HX.out];exact⟨rfl,rfl⟩)⟩);case measure=>simp[intOf];omega
   | some l =>
     have hB0:=HB.out;rw[hb]at hB0;obtain⟨a0,c0,rfl,rfl,hl0,hl8,hr0⟩:=hB0;have HR0:=qd hr0;have hfw:=fun a1 c1 W (h1:(QI k).length<=c1) (h2:qi W 1 encI a1 (QI k)) (h3:qi W 1 encI a0 l)=>qew (QI k) l a1 a0 c1 c0 (by omega) (by omega) h1 hl0 W h2 h3;obtain⟨fb,hfb⟩:∃fb,fewB (QI k) l=fb:=⟨_,rfl⟩;have HX:Hid (jQ good (k+1)=if fb then(if gd then some (QI k)else some l)else some l):=qd (by rw[HSX.out,hb,<-hgd,<-hfb];rfl);rw[hfb]at hfw;have HFW:=qd hfw;clear hb HSX hgd HB hfw hfb hr0
     cases fb with
     | false =>
       go_wp2_with (first|(go_at_call 119;(with_reducible refine(HLS.out k hk256 _).mono ?_);rintro e w1 ⟨a1,c1,rfl,hl1,hr1,hf1,hB1⟩;have hs1:=HS.out.keep hB1;have hg1:=qw HG.out (qo hB1);have hr01:=HR0.out.keep hB1)|(go_at_call 120;(with_reducible refine(HFW.out _ _ _ hl1 hr1 hr01).mono ?_);rintro e w2 ⟨rfl,rfl⟩));go_roundw;(case rel=>exact⟨k+1,_,_,_,_,rfl,rfl,rfl,rfl,rfl,by omega,qd hs1,qd hg1,qd (by rw[HX.out];exact⟨a0,c0,rfl,rfl,hl0,hl8,hr01⟩)⟩);case measure=>simp[intOf];omega
     | true =>
       cases gd with
       | true =>
         go_wp2_with (first|(go_at_call 119;(with_reducible refine(HLS.out k hk256 _).mono ?_);rintro e w1 ⟨a1,c1,rfl,hl1,hr1,hf1,hB1⟩;have hs1:=HS.out.keep hB1;have hg1:=qw HG.out (qo hB1);have hr01:=HR0.out.keep hB1)|(go_at_call 120;(with_reducible refine(HFW.out _ _ _ hl1 hr1 hr01).mono ?_);rintro e w2 ⟨rfl,rfl⟩)|((first|(rw[hargs])|skip);(with_reducible refine(HCL.out _ hs1 hg1).mono ?_);rintro e w2 ⟨rfl,hs2,hg2⟩;have hr2:=hs1.rows hg2 hr1));go_roundw;(case rel=>exact⟨k+1,_,_,_,_,rfl,rfl,rfl,rfl,rfl,by omega,qd hs2,qd (qw hg1 hg2),qd (by rw[HX.out];exact⟨a1,c1,rfl,rfl,hl1,hll,hr2⟩)⟩);case measure=>simp[intOf];omega
       | false =>
         go_wp2_with (first|(go_at_call 119;(with_reducible refine(HLS.out k hk256 _).mono ?_);rintro e w1 ⟨a1,c1,rfl,hl1,hr1,hf1,hB1⟩;have hs1:=HS.out.keep hB1;have hg1:=qw HG.out (qo hB1);have hr01:=HR0.out.keep hB1)|(go_at_call 120;(with_reducible refine(HFW.out _ _ _ hl1 hr1 hr01).mono ?_);rintro e w2 ⟨rfl,rfl⟩)|((first|(rw[hargs])|skip);(with_reducible refine(HCL.out _ hs1 hg1).mono ?_);rintro e w2 ⟨rfl,hs2,hg2⟩;have hr2:=hs1.rows hg2 hr1));have hr02:=hs1.rows hg2 hr01;go_roundw;(case rel=>exact⟨k+1,_,_,_,_,rfl,rfl,rfl,rfl,rfl,by omega,qd hs2,qd (qw hg1 hg2),qd (by rw[HX.out];exact⟨a0,c0,rfl,rfl,hl0,hl8,hr02⟩)⟩);case measure=>simp[intOf];omega
  ·obtain rfl:k=N:=(by omega);go_wp2;rw[Exit.noGoto_ret]
   go_ret2
   exact⟨_,_,rfl,by rw[HN.out];exact HB.out,HS.out,HG.out⟩
end Go.Proofs.Tryz
namespace Go.Proofs.Tryz
open Go Go.Load Go.LoadR Go.RowKit
def QP(p:PastM)(a:Nat):SetM:={ setOf p with away:=(a:Int) }
def qdz(D:DayM)(k:Nat)(p:PastM)(a:Nat):Bool:=(qD D (QP p a)).getD k 0 == -1
theorem JL(D:DayM)(m:Option Nat)(cb:Nat)(call:Int)(w:World)(hc:w.cell? ⟨cb,0,none⟩=some (.int .i64 call))(hl:D.cs.length<=20) :
 Calls qp 88 #[dm D m,pt cb] w fun e w'=>e=.returned (.int .i64 (za call D.cs.length))/\Below w.heap.size w w':=by
 have hix:=fun W=>jO call D.cs.length W (by omega) (by omega);unfold dm
 generalize Value.slice D.ta D.ts.length D.tc=x0 at *
 generalize Value.slice D.ga D.gs.length D.gc=x1 at *
 generalize Value.slice D.oa D.os.length D.oc=x2 at *
 generalize Value.slice D.ha D.hs.length D.hc=x3 at *
 have hb:=lt_of_cell hc;simp only at hb;go_enter (sf 88 f88),ntmps88;go_wp2_with (go_at_call 44;(with_reducible refine(hix _).mono ?_);rintro e w1 ⟨rfl,rfl⟩);go_ret;exact⟨rfl,by go_grown⟩
theorem ZT(D:DayM)(M:Nat)(A:Nat->Prop)(w0 w:World)(h:St D M A w0 w)(hA:∀b,A b->b<w.heap.size)(db cb:Nat)(hd:B6 w db (.slice D.ta D.ts.length D.tc) (.slice D.ga D.gs.length D.gc) (.slice D.oa D.os.length D.oc) (.slice D.ha D.hs.length D.hc) (.slice D.ca D.cs.length D.cc) (.map (some M)))
 (k:Nat) (hc:w.cell? ⟨cb,0,none⟩=some (.int .i64 k)) (hk:k<D.cs.length) (p:PastM) (hp:p.ok) (a:Nat) (ha:a<256) :
 Calls qp 89 #[pvP p,.int .u64 a,pt db,pt cb] w fun e w'=>e=.returned (.bool (qdz D k p a))/\St D M A w0 w'/\w.grownBy w' (some M):=by
 have hpl:=fun W (hS:St D M A w0 W) (hg:w.grownBy W (some M))=>QK hS (QP p a) (by simp[QP,setOf]) hp (by constructor<;>simp[QP]<;>omega) (fun b hb=>Nat.lt_of_lt_of_le (hA b hb) hg.size);have hlen:(qD D (QP p a)).length=D.cs.length:=qH _ _;have hcl:=h.sm.cs.1;have has:=fun W=>zX p W;obtain⟨x,hx⟩:∃x,(qD D (QP p a))[k]? = some x:=⟨(qD D (QP p a))[k]'(by omega),by simp⟩;unfold qdz;rw[List.getD_eq_getElem?_getD,hx];simp only[Option.getD_some];have hml:=h.kn.lt
 generalize qD D (QP p a)=R at *
 simp only[zf,QP,setOf]at has hpl;have HP:=qd hpl;have HAS:=qd has;have HST:=qd h;have HX:=qd hx;have HD:=qd hd;clear hpl has h hx hA hp;unfold dm at HP;unfold pvP at HAS⊢;obtain⟨pa,pb,pc,pd⟩:=p
 simp only at *
 generalize Value.slice D.ta D.ts.length D.tc=x0 at *
 generalize Value.slice D.ga D.gs.length D.gc=x1 at *
 generalize Value.slice D.oa D.os.length D.oc=x2 at *
 generalize Value.slice D.ha D.hs.length D.hc=x3 at *
 generalize Value.slice D.ca D.cs.length D.cc=x4 at *
 have hdl:=lt_of_cell hd.c0;have hcl2:=lt_of_cell hc;simp only at hdl hcl2;have hk0:(0:Int)<=(k:Int):=Int.natCast_nonneg k;have hk1:(k:Int)<(D.cs.length:Int):=by omega
 clear hd;go_enter (sf 89 f89),ntmps89;go_upto_region 1 with fail;obtain⟨W,hW⟩:∃W,w.alloc (Obj.cells #[.int .i64 pa,.int .i64 pb,.int .i64 pc,.int .i64 pd] 81)=W:=⟨_,rfl⟩;have hBW:Below w.heap.size w W:=by subst hW;go_grown
 have q0:W.cell? ⟨w.heap.size,0,none⟩=some (.int .i64 pa):=by subst hW;go_cell
 have q1:W.cell? ⟨w.heap.size,1,none⟩=some (.int .i64 pb):=by subst hW;go_cell
 have q2:W.cell? ⟨w.heap.size,2,none⟩=some (.int .i64 pc):=by subst hW;go_cell
 have q3:W.cell? ⟨w.heap.size,3,none⟩=some (.int .i64 pd):=by subst hW;go_cell
 rw[hW];clear hW;go_upto_region 2 with(go_at_call 48;(with_reducible refine(HAS.out _).mono ?_);rintro e w1 ⟨rfl,hB1⟩);clear q0 q1 q2 q3;go_upto_region 3 with fail;have hBw1:=Below.call hBW hB1 (by have:=hBW.size;omega);have hz1:=hBw1.size;obtain⟨B,hB⟩:∃B,w1.heap.size=B:=⟨_,rfl⟩;obtain⟨V,hV⟩:∃V,w1.alloc (Obj.cells #[.int .i64 pa,.int .i64 pb,.int .i64 pc,.int .i64 pd,.int .u64 a,.int .i64 (-1),.int .i64 0,.int .i64 0,.int .i64 0] 86)=V:=⟨_,rfl⟩;have hBV:Below w.heap.size w V:=hBw1.trans (by subst hV;go_grown);obtain⟨d0,d1,d2,d3,d4,d5⟩:=HD.out.keep hBV;have hcV:=qb _ hBV hc
 have hS:RG16 D M A w0 V ⟨db,0,none⟩ ⟨db,1,none⟩ ⟨db,2,none⟩ ⟨db,3,none⟩ ⟨db,4,none⟩ ⟨db,5,none⟩ ⟨B,0,none⟩ ⟨B,1,none⟩ ⟨B,2,none⟩ ⟨B,3,none⟩ ⟨B,4,none⟩ ⟨B,5,none⟩ ⟨B,6,none⟩ ⟨B,7,none⟩ ⟨B,8,none⟩ ⟨cb,0,none⟩ x0 x1 x2 x3 x4 (.map (some M)) (.int .i64 pa) (.int .i64 pb) (.int .i64 pc) (.int .i64 pd) (.int .u64 a) (.int .i64 (-1)) (.int .i64 0) (.int .i64 0) (.int .i64 0) (.int .i64 k) V:=by
  refine⟨d0,d1,d2,d3,d4,d5,?_,?_,?_,?_,?_,?_,?_,?_,?_,hcV,HST.out.keep hBV,qo (Below.refl _ _)⟩;all_goals(subst hV;subst hB;go_cell)
 try rw[hV]
 rw[hB];clear hV hB1 hBw1 d0 d1 d2 d3 d4 d5 hcV hc hdl hcl2;refine wp_region_held_drew (S:=(RG16 D M A w0 V ⟨db,0,none⟩ ⟨db,1,none⟩ ⟨db,2,none⟩ ⟨db,3,none⟩ ⟨db,4,none⟩ ⟨db,5,none⟩ ⟨B,0,none⟩ ⟨B,1,none⟩ ⟨B,2,none⟩ ⟨B,3,none⟩ ⟨B,4,none⟩ ⟨B,5,none⟩ ⟨B,6,none⟩ ⟨B,7,none⟩ ⟨B,8,none⟩ ⟨cb,0,none⟩ x0 x1 x2 x3 x4 (.map (some M)) (.int .i64 pa) (.int .i64 pb) (.int .i64 pc) (.int .i64 pd) (.int .u64 a) (.int .i64 (-1)) (.int .i64 0) (.int .i64 0) (.int .i64 0) (.int .i64 k))) (by kernel_rfl) (by exact RGL.drew hS) (fun hHeld=>?_);refine tk 0 ?_;refine tk 1 ?_;(refine tk 3 ?_;try simp only[zs,Act.put]);refine tkR 2 fun K hK=>?_;go_simp;go_wp2_with (go_at_call 47;(with_reducible refine(HP.out _ (RGL.st hHeld) (qw (qo hBV) (RGL.gr hHeld))).mono ?_);rintro e w2 ⟨a9,c9,rfl,hlc,hrow,hst1,hg1⟩);refine hK.out _ _ (by exact RGL.play hHeld hst1 hg1) (fun hHeldN=>?_);clear hK K hHeld;have hHeld:=hHeldN;clear hHeldN;try simp only[zs,Act.put]
 obtain⟨b,o,rfl,hP⟩:=hrow (by omega);have c8:=hP k x HX.out 0 _ rfl;simp only[Nat.mul_one,Nat.add_zero]at c8;have hkc:(k:Int)<=(c9:Int):=by omega
 clear hP;(refine tk 4 ?_;try simp only[zs,Act.put]);(refine tkR 5 fun K hK=>?_;go_simp;refine hK.out _ _ (by exact hHeld) (fun hHeldN=>?_);clear hK K hHeld;have hHeld:=hHeldN;clear hHeldN;try simp only[zs,Act.put]);refine tk 6 ?_;(refine tk 7 ?_;try simp only[zs,Act.put]);refine wpAnyH_done (by kernel_rfl) ?_ _;try simp only[zs,Act.put]
 have hgf:=RGL.gr (by with_reducible assumption);have hsf:=RGL.st (by with_reducible assumption);go_wp2;go_ret;exact⟨rfl,hsf,qw (qo hBV) hgf⟩
theorem JM(D:DayM)(M:Nat)(A:Nat->Prop)(w0 w:World)(h:St D M A w0 w)(hA:∀b,A b->b<w.heap.size)(db cb fb:Nat)(hd:B6 w db (.slice D.ta D.ts.length D.tc) (.slice D.ga D.gs.length D.gc) (.slice D.oa D.os.length D.oc) (.slice D.ha D.hs.length D.hc) (.slice D.ca D.cs.length D.cc) (.map (some M)))(k:Nat)(hc:w.cell? ⟨cb,0,none⟩=some (.int .i64 k))(hk:k<D.cs.length)(hf:w.cell? ⟨fb,0,none⟩=some (.func (.func 89) #[] #[pt db,pt cb]))(p:PastM)(hp:p.ok) :
 Calls qp 91 #[pvP p,pt fb] w fun e w'=>e=.returned (.bool (!qdz D k p 0))/\St D M A w0 w'/\w.grownBy w' (some M):=by
 have hbc:=fun W (hB:Below w.heap.size w W)=>ZT D M A w0 W (h.keep hB) (fun b hb=>Nat.lt_of_lt_of_le (hA b hb) hB.size) db cb (hd.keep hB) k (qb _ hB hc) hk p hp 0 (by decide);obtain⟨R,hR⟩:∃R,qdz D k p 0=R:=⟨_,rfl⟩;rw[hR]at hbc⊢;rw[show((0:Nat):Int)=0 from rfl]at hbc;have HB:=qd hbc;have hfl:=lt_of_cell hf;simp only at hfl;clear hbc h hA hd hc hp hR;unfold pvP at HB⊢;go_enter (sf 91 f91),ntmps91;go_wp2_with (go_at_call 89;(with_reducible refine(HB.out _ (by go_grown)).mono ?_);rintro e w1 ⟨rfl,hs1,hg1⟩);go_ret;exact⟨rfl,hs1,qw (qo (by go_grown)) hg1⟩
theorem Jb(D:DayM)(M:Nat)(A:Nat->Prop)(w0 w:World)(h:St D M A w0 w)(hA:∀b,A b->b<w.heap.size)(db cb fb:Nat)(hd:B6 w db (.slice D.ta D.ts.length D.tc) (.slice D.ga D.gs.length D.gc) (.slice D.oa D.os.length D.oc) (.slice D.ha D.hs.length D.hc) (.slice D.ca D.cs.length D.cc) (.map (some M)))(k:Nat)(hc:w.cell? ⟨cb,0,none⟩=some (.int .i64 k))(hk:k<D.cs.length)(hf:w.cell? ⟨fb,0,none⟩=some (.func (.func 89) #[] #[pt db,pt cb]))(sb s:Nat)(hs:w.cell? ⟨sb,0,none⟩=some (.int .u64 s))(hs2:s<256)(p:PastM)(hp:p.ok) :
 Calls qp 94 #[pvP p,pt fb,pt sb] w fun e w'=>e=.returned (.bool (qdz D k p s))/\St D M A w0 w'/\w.grownBy w' (some M):=by
 have hbc:=fun W (hB:Below w.heap.size w W)=>ZT D M A w0 W (h.keep hB) (fun b hb=>Nat.lt_of_lt_of_le (hA b hb) hB.size) db cb (hd.keep hB) k (qb _ hB hc) hk p hp s hs2;obtain⟨R,hR⟩:∃R,qdz D k p s=R:=⟨_,rfl⟩;rw[hR]at hbc⊢;have HB:=qd hbc;have hfl:=lt_of_cell hf;have hsl:=lt_of_cell hs;simp only at hfl hsl;clear hbc h hA hd hc hp hR;unfold pvP at HB⊢;go_enter (sf 94 f94),ntmps94;go_wp2_with (go_at_call 89;(with_reducible refine(HB.out _ (by go_grown)).mono ?_);rintro e w1 ⟨rfl,hs1,hg1⟩);go_ret;exact⟨rfl,hs1,qw (qo (by go_grown)) hg1⟩
def XF(D:DayM)(k s:Nat):Bool:=!jL (s:Int) k && !(qx D).any fun p=>qdz D k p s
theorem bit0:((List.range 256).all fun s=>(List.range 9).all fun k=>(bits BinOp.and IntKind.u64 ((s:Int)/2 ^ min k 64) 1==0) == !jL (s:Int) k)=true:=by decide +kernel
theorem bit0_of{s k:Nat}(hs:s<256)(hk:k<9):(bits BinOp.and IntKind.u64 ((s:Int)/2 ^ min k 64) 1==0) = !jL (s:Int) k:=by
 have h:=List.all_eq_true.1 bit0 s (List.mem_range.2 hs);have h:=List.all_eq_true.1 h k (List.mem_range.2 hk);simpa using h
theorem JN(D:DayM)(M:Nat)(A:Nat->Prop)(w0 w:World)(h:St D M A w0 w)(hA:∀b,A b->b<w.heap.size)(db cb fb:Nat)(hd:B6 w db (.slice D.ta D.ts.length D.tc) (.slice D.ga D.gs.length D.gc) (.slice D.oa D.os.length D.oc) (.slice D.ha D.hs.length D.hc) (.slice D.ca D.cs.length D.cc) (.map (some M)))(k:Nat)(hc:w.cell? ⟨cb,0,none⟩=some (.int .i64 k))(hk:k<D.cs.length)(hf:w.cell? ⟨fb,0,none⟩=some (.func (.func 89) #[] #[pt db,pt cb]))(hk8:D.cs.length<=8)(hz:checkN D=0)(lb:Nat)(a:Option Addr)(c:Nat)(hlc:(qx D).length<=c)(hl:w.cell? ⟨lb,0,none⟩=some (.slice a (qx D).length c))(hr:qi w 4 Zx a (qx D))(s:Nat)(hs2:s<256) :
 Calls qp 93 #[.int .u64 s,pt cb,pt lb,pt fb] w fun e w'=>e=.returned (.bool (XF D k s))/\St D M A w0 w'/\w.grownBy w' (some M):=by
 obtain⟨W,hW⟩:∃W,w.alloc (Obj.cells #[.int .u64 s] 83)=W:=⟨_,rfl⟩;have hBW:Below w.heap.size w W:=by subst hW;go_grown
 have hsW:W.heap.size=w.heap.size+1:=by subst hW;simp
 have ks:W.cell? ⟨w.heap.size,0,none⟩=some (.int .u64 s):=by subst hW;go_cell
 have hml:=h.kn.lt;have hN:=zb hz
 have hct:=ZV 94 #[pt fb,pt w.heap.size] (cE 94 (by decide +kernel)) (fun p=>qdz D k p s) (qx D) a c (by omega) (fun X=>St D M A w0 X/\W.grownBy X (some M)) (fun X hX=>(h.keep hBW).rows hX.2 (hr.keep hBW)) W ⟨h.keep hBW,qo (Below.refl _ _)⟩ (fun i x hx X hX=>by
  have hm:=Mod.grown hX.2 (S:=fun b=>b=M) (fun b e=>(qz e).symm);have hzx:=hm.size
  have hne:∀{b:Nat} {v:Value} {o:Nat},w.cell? ⟨b,o,none⟩=some v->b≠M:=fun hq e=>by
   obtain⟨f,h1,_⟩:=h.kn;exact map_cell h1 hq e
  refine(Jb D M A w0 X hX.1 (fun b hb=>by have:=hA b hb;omega) db cb fb ((hd.keep hBW).mod hm (hne hd.c0)) k (hm.cell (qb _ hBW hc) (hne hc)) hk (hm.cell (qb _ hBW hf) (hne hf)) w.heap.size s (hm.cell ks (by simp only;omega)) hs2 x (Qk hz x (qI hx))).mono ?_;rintro e w' ⟨he,h1,h2⟩
  exact⟨he,h1,qw hX.2 h2⟩)
 unfold XF;obtain⟨R,hR⟩:∃R,((qx D).any fun p=>qdz D k p s)=R:=⟨_,rfl⟩;rw[hR]at hct⊢;have hbit:=bit0_of hs2 (show k<9 by omega);have hbit2:=hbit;rw[Nat.min_eq_left (show k<=64 by omega)]at hbit2;have hk0:(0:Int)<=(k:Int):=Int.natCast_nonneg k;have hk1:(k:Int)<64:=by omega
 have c0:=qb _ hBW hc;have l0:=qb _ hBW hl;have HF:=qd (qg h hBW);have HC:=qd hct;have hcl:=lt_of_cell hc;have hll:=lt_of_cell hl;simp only at hcl hll;clear h hA hd hf hr hR hct hc hl hz hN
 cases hb:jL (s:Int) k with
 | true =>
   rw[hb]at hbit hbit2;simp only[Bool.not_true]at hbit hbit2;go_enter (sf 93 f93),ntmps93;go_upto_region 1 with fail;(try rw[hW]);clear hW;go_wp2;go_ret;exact⟨rfl,HF.out.1.keep HF.out.2,qo HF.out.2⟩
 | false =>
   rw[hb]at hbit hbit2;simp only[Bool.not_false]at hbit hbit2;go_enter (sf 93 f93),ntmps93;go_upto_region 1 with fail;(try rw[hW]);clear hW;go_wp2_with (go_at_call 90;(with_reducible refine HC.out.mono ?_);rintro e w1 ⟨rfl,hs1,hg1⟩);go_ret;exact⟨rfl,hs1,qw (qo HF.out.2) hg1⟩
def BecR(D:DayM)(k:Nat)(W:World)(q:Value)(al:Int):Prop :=
 if(qx D).any (fun p => !qdz D k p 0)then q=.slice none 0 0/\al=7
 else match jQ (XF D k) (2 ^ D.cs.length)with
  | none=>q=.slice none 0 0/\al=9
  | some l=>al=0/\∃a c,q=.slice a l.length c/\l.length<=c/\qi W 1 encI a l
def BecP(D:DayM)(call:Int)(w:World)(e:Ending)(w':World):Prop :=
 Below w.heap.size w w'/\∃q al,e=.returned (.tuple #[q,.int .i64 al])/\((zt D (za call D.cs.length)≠0/\q=.slice none 0 0/\al=zt D (za call D.cs.length))\/(zt D (za call D.cs.length)=0/\BecR D call.toNat w' q al))
theorem qaX(D:DayM)(w:World)(h:DayAt w D)(hs:DaySm D)(hG:Globs w)(call:Int):Calls qp 40 #[dv D,.int .i64 call] w (BecP D call w):=by
 have hcl:=hs.cs.1;obtain⟨W,hW⟩:∃W,(w.alloc (Obj.cells #[.slice D.ta D.ts.length D.tc,.slice D.ga D.gs.length D.gc,.slice D.oa D.os.length D.oc,.slice D.ha D.hs.length D.hc,.slice D.ca D.cs.length D.cc] 28)).alloc (Obj.cells #[.int .i64 call] 3)=W:=⟨_,rfl⟩;have hBW:Below w.heap.size w W:=by subst hW;go_grown
 have hsW:W.heap.size=w.heap.size+2:=by subst hW;simp
 have k0:W.cell? ⟨w.heap.size,0,none⟩=some (.slice D.ta D.ts.length D.tc):=by subst hW;go_cell
 have k1:W.cell? ⟨w.heap.size,1,none⟩=some (.slice D.ga D.gs.length D.gc):=by subst hW;go_cell
 have k2:W.cell? ⟨w.heap.size,2,none⟩=some (.slice D.oa D.os.length D.oc):=by subst hW;go_cell
 have k3:W.cell? ⟨w.heap.size,3,none⟩=some (.slice D.ha D.hs.length D.hc):=by subst hW;go_cell
 have k4:W.cell? ⟨w.heap.size,4,none⟩=some (.slice D.ca D.cs.length D.cc):=by subst hW;go_cell
 have kc:W.cell? ⟨w.heap.size+1,0,none⟩=some (.int .i64 call):=by subst hW;go_cell
 have hask:=yF D W (h.keep hBW) hs (hG.keep hBW) 88 #[pt (w.heap.size+1)] (cE 88 (by decide +kernel)) (za call D.cs.length) (fun M V hM hB=>JL D (some M) (w.heap.size+1) call V (qb _ hB kc) hcl);obtain⟨al,hal⟩:∃al,za call D.cs.length=al:=⟨_,rfl⟩;unfold BecP;rw[hal]at hask⊢;have hdv:dv D=.agg #[.slice D.ta D.ts.length D.tc,.slice D.ga D.gs.length D.gc,.slice D.oa D.os.length D.oc,.slice D.ha D.hs.length D.hc,.slice D.ca D.cs.length D.cc]:=rfl;rw[hdv]at hask⊢;have HD:=qd (qg h (qg hs hal));clear h hs hG hdv hal;by_cases ha:zt D al=0
 ·have hz:=yj ha;have hix:=Qg (HD.out.2.2.trans hz.2);have hok:=hask.mono (fun e w' h=>h.ok ha);have HA:=qd ha;have HZ:=qd hz.1;clear hask ha hz;go_enter (sf 40 f40),ntmps40;go_upto_region 1 with fail;try rw[hW]
  clear hW;unfold dm at hok;go_upto_region 4 with(go_at_call 42;(with_reducible refine hok.mono ?_);rintro e w1 ⟨M,a,c,rfl,hpos,hlc,hrow,hfr,hst⟩;have hs1:=hst.bel.size);obtain⟨k,rfl⟩:=Int.eq_ofNat_of_zero_le hix.1;have hML:=hst.kn.lt;have hMW:=hst.le;obtain⟨V2,hV2⟩:∃V2,(w1.alloc (Obj.cells #[.slice D.ta D.ts.length D.tc,.slice D.ga D.gs.length D.gc,.slice D.oa D.os.length D.oc,.slice D.ha D.hs.length D.hc,.slice D.ca D.cs.length D.cc,.map (some M)] 73)).alloc (Obj.cells #[.slice a (qx D).length c] 74)=V2:=⟨_,rfl⟩;have hBV:Below w1.heap.size w1 V2:=by subst hV2;go_grown
  have h7:B6 V2 w1.heap.size (.slice D.ta D.ts.length D.tc) (.slice D.ga D.gs.length D.gc) (.slice D.oa D.os.length D.oc) (.slice D.ha D.hs.length D.hc) (.slice D.ca D.cs.length D.cc) (.map (some M)):=by subst hV2;exact⟨by go_cell,by go_cell,by go_cell,by go_cell,by go_cell,by go_cell⟩
  have hl7:V2.cell? ⟨w1.heap.size+1,0,none⟩=some (.slice a (qx D).length c):=by subst hV2;go_cell
  have hszV:V2.heap.size=w1.heap.size+1+1:=by subst hV2;simp
  obtain⟨T,hT⟩:∃T,w1.heap.size=T:=⟨_,rfl⟩;try rw[hV2]
  have hsV:=hst.keep hBV;have hrV:=hrow.keep hBV;have kcV:=qb _ hsV.bel kc;rw[hT]at h7 hl7 hML hszV⊢;have HS:=qd (qg h7 (qg hl7 (qg hsV (qg hrV kcV))));clear hBV hV2 hrow hst hok hfr k0 k1 k2 k3 k4 h7 hl7 hsV hrV kcV kc hpos;go_upto_region 5 with fail;obtain⟨V3,hV3⟩:∃V3,V2.alloc (Obj.cells #[.func (.func 89) #[] #[pt T,pt (w.heap.size+1)]] 124)=V3:=⟨_,rfl⟩;have hB3:Below V2.heap.size V2 V3:=by subst hV3;go_grown
  have hz3:V3.heap.size=V2.heap.size+1:=by subst hV3;simp
  have hfb:V3.cell? ⟨V2.heap.size,0,none⟩=some (.func (.func 89) #[] #[pt T,pt (w.heap.size+1)]):=by subst hV3;go_cell
  try rw[hV3]
  clear hV3;obtain⟨h7,hl7,hsV,hrV,kcV⟩:=HS.out;have h73:=h7.keep hB3;have hl3:=qb _ hB3 hl7;have hs3:=hsV.keep hB3;have hr3:=hrV.keep hB3;have kc3:=qb _ hB3 kcV;have hkl:k<D.cs.length:=by omega
  have hcs8:=(qY D HZ.out).cs;have hlen:=zb HZ.out;rw[hszV]at hfb hz3;try rw[hszV]
  have hH:∀X,V3.grownBy X (some M)->B6 X T (.slice D.ta D.ts.length D.tc) (.slice D.ga D.gs.length D.gc) (.slice D.oa D.os.length D.oc) (.slice D.ha D.hs.length D.hc) (.slice D.ca D.cs.length D.cc) (.map (some M))/\X.cell? ⟨w.heap.size+1,0,none⟩=some (.int .i64 k)/\X.cell? ⟨T+1+1,0,none⟩=some (.func (.func 89) #[] #[pt T,pt (w.heap.size+1)])/\X.cell? ⟨T+1,0,none⟩=some (.slice a (qx D).length c)/\qi X 4 Zx a (qx D):=fun X hX=>by
   have hm:=Mod.grown hX (S:=fun b=>b=M) (fun b e=>(qz e).symm);exact⟨h73.mod hm (by omega),hm.cell kc3 (by simp only;omega),hm.cell hfb (by simp only;omega),hm.cell hl3 (by simp only;omega),hs3.rows hX hr3⟩
  have hct:=ZV 91 #[pt (T+1+1)] (cE 91 (by decide +kernel)) (fun p => !qdz D k p 0) (qx D) a c (by omega) (fun X=>St D M (fun _=>False) W X/\V3.grownBy X (some M)) (fun X hX=>(hH X hX.2).2.2.2.2) V3 ⟨hs3,qo (Below.refl _ _)⟩ (fun i x hx X hX=>by
   obtain⟨g1,g2,g3,-,-⟩:=hH X hX.2;refine(JM D M (fun _=>False) W X hX.1 (fun b hb=>hb.elim) T (w.heap.size+1) (T+1+1) g1 k g2 hkl g3 x (Qk HZ.out x (qI hx))).mono ?_;rintro e w' ⟨he,h1,h2⟩
   exact⟨he,h1,qw hX.2 h2⟩)
  have hle:=fun X (hX:St D M (fun _=>False) W X/\V3.grownBy X (some M))=>qfa D M (fun _=>False) W X hX.1 D.cs.length hcs8 (XF D k) 93 #[pt (w.heap.size+1),pt (T+1),pt (T+1+1)] (cE 93 (by decide +kernel)) (fun s Y hs hY hg=>by
   obtain⟨g1,g2,g3,g4,g5⟩:=hH Y (qw hX.2 hg)
   exact JN D M (fun _=>False) W Y hY (fun b hb=>hb.elim) T (w.heap.size+1) (T+1+1) g1 k g2 hkl g3 hcs8 HZ.out (T+1) a c hlc g4 g5 s hs)
  have hcA:∀X,V3.grownBy X (some M)->X.cell? ⟨T,4,none⟩=some (.slice D.ca D.cs.length D.cc):=fun X hX=>(hH X hX).1.c4;have HH:=qd hcA;have HLE:=qd hle;have HCT:=qd hct;have HF:=qd (qg hBW hs3);have hbk:BecR D ((k:Int)).toNat=BecR D k:=by rw[Int.toNat_natCast]
  have HBK:=qd hbk;clear h7 hl7 hsV hrV kcV h73 hs3 hr3 kc3 hH hct hle hcA hbk HS hfb hB3;obtain⟨R,hR⟩:∃R,((qx D).any fun p => !qdz D k p 0)=R:=⟨_,rfl⟩;rw[hR]at HCT;have HR:=qd hR;clear hR
  cases R with
  | true =>
    go_wp2_with (go_at_call 90;(with_reducible refine HCT.out.mono ?_);rintro e w2 ⟨rfl,hs2,hg2⟩)
    go_ret2
    exact⟨Below.call HF.out.1 hs2.bel (by omega),_,_,rfl,.inr ⟨HA.out,by rw[HBK.out];unfold BecR;rw[HR.out];exact⟨rfl,rfl⟩⟩⟩
  | false =>
    obtain⟨O,hO⟩:∃O,jQ (XF D k) (2 ^ D.cs.length)=O:=⟨_,rfl⟩;rw[hO]at HLE;have HO:=qd hO;clear hO
    cases O with
    | none =>
      go_wp2_with (first|(go_at_call 90;(with_reducible refine HCT.out.mono ?_);rintro e w2 ⟨rfl,hs2,hg2⟩;have c4:=HH.out w2 hg2)|(go_at_call 92;(with_reducible refine(HLE.out w2 ⟨hs2,hg2⟩).mono ?_);rintro e w5 ⟨q,f,rfl,⟨rfl,rfl⟩,hs5,hg5⟩))
      go_ret2
      exact⟨Below.call HF.out.1 hs5.bel (by omega),_,_,rfl,.inr ⟨HA.out,by rw[HBK.out];unfold BecR;rw[HR.out,HO.out];exact⟨rfl,rfl⟩⟩⟩
    | some l =>
      go_wp2_with (first|(go_at_call 90;(with_reducible refine HCT.out.mono ?_);rintro e w2 ⟨rfl,hs2,hg2⟩;have c4:=HH.out w2 hg2)|(go_at_call 92;(with_reducible refine(HLE.out w2 ⟨hs2,hg2⟩).mono ?_);rintro e w5 ⟨q,f,rfl,⟨a5,c5,rfl,rfl,hl5,h85,hr5⟩,hs5,hg5⟩))
      go_ret2
      exact⟨Below.call HF.out.1 hs5.bel (by omega),_,_,rfl,.inr ⟨HA.out,by rw[HBK.out];unfold BecR;rw[HR.out,HO.out];exact⟨rfl,a5,c5,rfl,hl5,hr5⟩⟩⟩
 ·have hbad:=hask.mono (fun e w' h=>h.bad ha);have hb:(zt D al != 0)=true:=by simpa using ha
  unfold dz at hbad;have HA:=qd ha;clear hask ha
  generalize zt D al=r at *
  go_enter (sf 40 f40),ntmps40;go_upto_region 1 with fail;try rw[hW]
  clear hW;go_wp2_with (go_at_call 42;(with_reducible refine hbad.mono ?_);rintro e w1 ⟨rfl,hB1⟩;have hs1:=hB1.size)
  go_ret2
  exact⟨Below.call hBW (by go_grown) (by omega),_,_,rfl,.inl ⟨HA.out,rfl,rfl⟩⟩
theorem jZ(w:World):(isAgg 28).run qp w=.ok true w:=by kernel_rfl
theorem jf(w:World):(Go.sizeOf 28).run qp w=.ok 5 w:=by kernel_rfl
def d0v:Value:=.agg #[.slice none 0 0,.slice none 0 0,.slice none 0 0,.slice none 0 0,.slice none 0 0]
def AgrP(D:DayM)(w:World)(e:Ending)(w':World):Prop :=
 Below w.heap.size w w'/\((zt D 0≠0/\e=.returned (.tuple #[d0v,.int .i64 (zt D 0)]))\/(zt D 0=0/\e=.returned (.tuple #[dv D,.int .i64 0])))
theorem qcL(D:DayM)(w:World)(h:DayAt w D)(hs:DaySm D)(hG:Globs w):Calls qp 87 #[dv D] w (AgrP D w):=by
 obtain⟨W,hW⟩:∃W,(w.alloc (Obj.cells #[.slice D.ta D.ts.length D.tc,.slice D.ga D.gs.length D.gc,.slice D.oa D.os.length D.oc,.slice D.ha D.hs.length D.hc,.slice D.ca D.cs.length D.cc] 28)).alloc (Obj.cells #[.slice none 0 0,.slice none 0 0,.slice none 0 0,.slice none 0 0,.slice none 0 0] 28)=W:=⟨_,rfl⟩;have hBW:Below w.heap.size w W:=by subst hW;go_grown
 have hsW:W.heap.size=w.heap.size+2:=by subst hW;simp
 have k0:W.cell? ⟨w.heap.size,0,none⟩=some (.slice D.ta D.ts.length D.tc):=by subst hW;go_cell
 have k1:W.cell? ⟨w.heap.size,1,none⟩=some (.slice D.ga D.gs.length D.gc):=by subst hW;go_cell
 have k2:W.cell? ⟨w.heap.size,2,none⟩=some (.slice D.oa D.os.length D.oc):=by subst hW;go_cell
 have k3:W.cell? ⟨w.heap.size,3,none⟩=some (.slice D.ha D.hs.length D.hc):=by subst hW;go_cell
 have k4:W.cell? ⟨w.heap.size,4,none⟩=some (.slice D.ca D.cs.length D.cc):=by subst hW;go_cell
 have b0:W.cell? ⟨w.heap.size+1,0,none⟩=some (.slice none 0 0):=by subst hW;go_cell
 have b1:W.cell? ⟨w.heap.size+1,1,none⟩=some (.slice none 0 0):=by subst hW;go_cell
 have b2:W.cell? ⟨w.heap.size+1,2,none⟩=some (.slice none 0 0):=by subst hW;go_cell
 have b3:W.cell? ⟨w.heap.size+1,3,none⟩=some (.slice none 0 0):=by subst hW;go_cell
 have b4:W.cell? ⟨w.heap.size+1,4,none⟩=some (.slice none 0 0):=by subst hW;go_cell
 have g0:W.frozen? ⟨w.heap.size+1,0,none⟩=false:=by subst hW;go_cell
 have g1:W.frozen? ⟨w.heap.size+1,1,none⟩=false:=by subst hW;go_cell
 have g2:W.frozen? ⟨w.heap.size+1,2,none⟩=false:=by subst hW;go_cell
 have g3:W.frozen? ⟨w.heap.size+1,3,none⟩=false:=by subst hW;go_cell
 have g4:W.frozen? ⟨w.heap.size+1,4,none⟩=false:=by subst hW;go_cell
 have hask:=yF D W (h.keep hBW) hs (hG.keep hBW) 63 #[] (cE 63 (by decide +kernel)) 0 (fun M V hM hB=>by unfold dm;exact yV _ _ _ _ _ _ V);have hdv:dv D=.agg #[.slice D.ta D.ts.length D.tc,.slice D.ga D.gs.length D.gc,.slice D.oa D.os.length D.oc,.slice D.ha D.hs.length D.hc,.slice D.ca D.cs.length D.cc]:=rfl;unfold AgrP;rw[hdv]at hask⊢;clear h hs hG hdv;by_cases ha:zt D 0=0
 ·have hok:=hask.mono (fun e w' h=>h.ok ha);have HA:=qd ha;clear hask ha;go_enter (sf 87 f87),ntmps87;go_upto_region 1 with fail;try rw[hW]
  clear hW;unfold dm at hok;go_upto_region 2 with(go_at_call 42;(with_reducible refine hok.mono ?_);rintro e w1 ⟨M,a,c,rfl,hpos,hlc,hrow,hfr,hst⟩;have hs1:=hst.bel.size);obtain⟨V,hV⟩:∃V,w1.alloc (Obj.cells #[.slice D.ta D.ts.length D.tc,.slice D.ga D.gs.length D.gc,.slice D.oa D.os.length D.oc,.slice D.ha D.hs.length D.hc,.slice D.ca D.cs.length D.cc,.map (some M)] 73)=V:=⟨_,rfl⟩;have hBV:Below W.heap.size W V:=Below.call hst.bel (by subst hV;go_grown) (by omega);try rw[hV]
  have k0:=qb _ hBV k0;have k1:=qb _ hBV k1;have k2:=qb _ hBV k2;have k3:=qb _ hBV k3;have k4:=qb _ hBV k4;have c0:=qb _ hBV b0;have f0:=qf _ hBV b0 g0;have c1:=qb _ hBV b1;have f1:=qf _ hBV b1 g1;have c2:=qb _ hBV b2;have f2:=qf _ hBV b2 g2;have c3:=qb _ hBV b3;have f3:=qf _ hBV b3 g3;have c4:=qb _ hBV b4;have f4:=qf _ hBV b4 g4;have hzV:=hBV.size;clear hV hst hok hfr hrow b0 b1 b2 b3 b4;go_wp2;refine LoadR.ret_ct5 results87 jZ jf rfl rfl c0 c1 c2 c3 c4 ⟨?_,.inr ⟨HA.out,rfl⟩⟩;exact LoadR.Below.set5 (Below.call hBW hBV (by omega)) (by omega)
 ·have hbad:=hask.mono (fun e w' h=>h.bad ha);have hb:(zt D 0 != 0)=true:=by simpa using ha
  unfold dz at hbad;have HA:=qd ha;clear hask ha
  generalize zt D 0=r at *
  go_enter (sf 87 f87),ntmps87;go_upto_region 1 with fail;try rw[hW]
  clear hW;go_upto_region 2 with(go_at_call 42;(with_reducible refine hbad.mono ?_);rintro e w1 ⟨rfl,hB1⟩;have hs1:=hB1.size);obtain⟨V,hV⟩:∃V,w1.alloc (Obj.cells #[.slice none 0 0,.slice none 0 0,.slice none 0 0,.slice none 0 0,.slice none 0 0,.map none] 73)=V:=⟨_,rfl⟩;have hBV:Below W.heap.size W V:=Below.call hB1 (by subst hV;go_grown) (by omega);try rw[hV]
  have k0:=qb _ hBV k0;have k1:=qb _ hBV k1;have k2:=qb _ hBV k2;have k3:=qb _ hBV k3;have k4:=qb _ hBV k4;have c0:=qb _ hBV b0;have f0:=qf _ hBV b0 g0;have c1:=qb _ hBV b1;have f1:=qf _ hBV b1 g1;have c2:=qb _ hBV b2;have f2:=qf _ hBV b2 g2;have c3:=qb _ hBV b3;have f3:=qf _ hBV b3 g3;have c4:=qb _ hBV b4;have f4:=qf _ hBV b4 g4;have hzV:=hBV.size;clear hV hB1 hbad b0 b1 b2 b3 b4;go_wp2;refine LoadR.ret_ct5 results87 jZ jf rfl rfl c0 c1 c2 c3 c4 ⟨?_,.inl ⟨HA.out,rfl⟩⟩;exact LoadR.Below.set5 (Below.call hBW hBV (by omega)) (by omega)
end Go.Proofs.Tryz
namespace Go.Proofs.Tryz
open Go Go.Load Go.LoadR Go.RowKit Go.Instr
def qcn:List Int->List Int->Bool
 | [],[]=>false
 | [],_::_=>true
 | _::_,[]=>false
 | a::A,b::B=>if a≠b then decide (a<b)else qcn A B
theorem qah:∀A B:List Int,(!qcn A B && !qcn B A)=decide (A=B)
 | [],[]=>rfl
 | [],_::_=>rfl
 | _::_,[]=>rfl
 | a::A,b::B=>by
   simp only[qcn];by_cases e:a=b
   ·subst e;simp only[ne_eq,not_true_eq_false,if_false,qah A B];simp
   ·have e':b≠a:=Ne.symm e;simp only[ne_eq,e,e',not_false_eq_true,if_true];have h1:(a::A=b::B)↔False:=(by simp[e]);rw[decide_eq_false (by simp[e]:¬(a::A=b::B))];rcases Int.lt_or_gt_of_ne e with h|h
    ·rw[decide_eq_true h];rfl
    ·rw[decide_eq_true (show b<a from h)];simp
theorem qfc{A B:List Int}{k:Nat}{a b:Int}(ha:A[k]? = some a)(hb:B[k]? = some b):qcn (A.drop k) (B.drop k)=if a≠b then decide (a<b)else qcn (A.drop (k+1)) (B.drop (k+1)):=by
 obtain⟨h1,rfl⟩:=qB ha;obtain⟨h2,rfl⟩:=qB hb;rw[List.drop_eq_getElem_cons h1,List.drop_eq_getElem_cons h2];rfl
theorem lexN_end{A B:List Int}{k:Nat}(h:A.length<=k\/B.length<=k)(hk1:k<=A.length)(hk2:k<=B.length):qcn (A.drop k) (B.drop k)=decide (A.length<B.length):=by
 by_cases h1:A.length<=k
 ·rw[List.drop_eq_nil_of_le h1];by_cases h2:B.length<=k
  ·rw[List.drop_eq_nil_of_le h2,decide_eq_false (by omega)];rfl
  ·rw[List.drop_eq_getElem_cons (show k<B.length by omega),decide_eq_true (by omega)];rfl
 ·rw[List.drop_eq_getElem_cons (show k<A.length by omega),List.drop_eq_nil_of_le (show B.length<=k by omega),decide_eq_false (by omega)];rfl
theorem Xy(aa ab:Option Addr)(ca cb:Nat)(A B:List Int)(w:World)(ha:qi w 1 encI aa A)(hb:qi w 1 encI ab B)(h1:A.length<=100)(h2:B.length<=100)(hca:A.length<=ca)(hcb:B.length<=cb):Calls qp 52 #[.slice aa A.length ca,.slice ab B.length cb] w fun e w'=>e=.returned (.bool (qcn A B))/\Below w.heap.size w w':=by
 have HA:=qd ha;have HB:=qd hb;have HD:=qd fun(k:Nat) (a b:Int) (ha:A[k]? = some a) (hb:B[k]? = some b)=>qfc ha hb;have HE:=qd fun(k:Nat) (h:A.length<=k\/B.length<=k) (hk1:k<=A.length) (hk2:k<=B.length)=>lexN_end h hk1 hk2;have H0:Hid (qcn A B=qcn (A.drop 0) (B.drop 0)):=qd rfl;clear ha hb;go_enter (sf 52 f52),ntmps52;go_wp2;go_loopw [5] (fun i wr=>∃k:Nat,i=.int .i64 k/\k<=A.length/\k<=B.length/\Below w.heap.size w wr/\Hid (qcn A B=qcn (A.drop k) (B.drop k))) (fun i _=>A.length-(intOf i).toNat);case atStart=>exact⟨0,rfl,by omega,by omega,.refl _ _,H0⟩
 case round =>
  obtain⟨k,rfl,hk1,hk2,hBr,HL⟩:=hrel;have hk0:(0:Int)<=(k:Int):=Int.natCast_nonneg k;by_cases hlt:k<A.length/\k<B.length
  ·obtain⟨l1,l2⟩:=hlt;obtain⟨a,ha⟩:∃a,A[k]? = some a:=⟨A[k],by simp[l1]⟩;obtain⟨b,hb⟩:∃b,B[k]? = some b:=⟨B[k],by simp[l2]⟩;obtain⟨ba,oa,rfl,ra⟩:=HA.out (by omega);obtain⟨bb,ob,rfl,rb⟩:=HB.out (by omega);have c0:=qb _ hBr (ra k a ha 0 _ rfl);have c1:=qb _ hBr (rb k b hb 0 _ rfl);simp only[Nat.mul_one,Nat.add_zero]at c0 c1;have j1:(k:Int)<=(ca:Int):=(by omega);have j2:(k:Int)<=(cb:Int):=(by omega);have hd:=qd (HD.out k a b ha hb);have i1:(k:Int)<(A.length:Int):=(by omega);have i2:(k:Int)<(B.length:Int):=(by omega);clear ra rb ha hb;by_cases e:a=b
   ·subst e;go_wp2;go_quiet (fail);go_wp2;go_roundw;(case rel=>exact⟨k+1,rfl,by omega,by omega,below_drewN hBr _,qd (HL.out.trans (by rw[hd.out,if_neg (by simp)]))⟩);case measure=>simp[intOf];omega
   ·have hab:(a==b)=false:=(by simp[e]);have hab':(a != b)=true:=(by simp[e]);have hL:Hid (qcn A B=decide (a<b)):=qd (HL.out.trans (by rw[hd.out,if_pos e]));clear e;go_wp2;go_quiet (fail);go_wp2;go_quiet (fail);go_wp2;go_ret;exact⟨by rw[hL.out];rfl,below_drewN (below_drewN hBr _) _⟩
  ·have hE:=qd (HL.out.trans (HE.out k (by omega) hk1 hk2));by_cases l1:k<A.length
   ·have i1:(k:Int)<(A.length:Int):=(by omega);have i2:¬(k:Int)<(B.length:Int):=(by omega);go_wp2;go_ret;refine⟨?_,hBr⟩;rw[hE.out];simp
   ·have i1:¬(k:Int)<(A.length:Int):=(by omega);go_wp2;go_ret;refine⟨?_,hBr⟩;rw[hE.out];simp
theorem ZR(aa ab:Option Addr)(ca cb:Nat)(A B:List Int)(w:World)(ha:qi w 1 encI aa A)(hb:qi w 1 encI ab B)(h1:A.length<=100)(h2:B.length<=100)(hca:A.length<=ca)(hcb:B.length<=cb):Calls qp 11 #[.slice aa A.length ca,.slice ab B.length cb] w fun e w'=>e=.returned (.bool (decide (A=B)))/\Below w.heap.size w w':=by
 have hl1:=fun W (h:Below w.heap.size w W)=>Xy aa ab ca cb A B W (ha.keep h) (hb.keep h) h1 h2 hca hcb;have hl2:=fun W (h:Below w.heap.size w W)=>Xy ab aa cb ca B A W (hb.keep h) (ha.keep h) h2 h1 hcb hca;have hbo:=qd (qah A B);clear ha hb
 cases h3:qcn A B with
 | true =>
   simp only[h3]at hl1 hbo;go_enter (sf 11 f11),ntmps11;go_wp2_with (go_at_call 52;refine(hl1 _ (by go_grown)).mono ?_;rintro e w1 ⟨rfl,hB1⟩);go_ret;exact⟨by rw[<-hbo.out];rfl,hB1⟩
 | false =>
   simp only[h3]at hl1 hbo;go_enter (sf 11 f11),ntmps11;go_wp2_with (first|(go_at_call 52;(with_reducible refine(hl1 _ (.refl _ _)).mono ?_);rintro e w1 ⟨rfl,hB1⟩)|(go_at_call 52;(with_reducible refine(hl2 _ (by assumption)).mono ?_);rintro e w2 ⟨rfl,hB2⟩));go_ret;exact⟨by rw[<-hbo.out];rfl,bcl hB1 hB2⟩
theorem spBand:qp.underlying 40=some (.struct (qp.fieldsOf 40)):=by kernel_rfl
theorem hpBand:qp.stoodInHeld 40=false:=by kernel_rfl
theorem eqb(d:Nat)(a b a' b':Int)(w:World):(Op.equalIn (d+2) 40 (.agg #[.int .i64 a,.int .i64 b]) (.agg #[.int .i64 a',.int .i64 b'])).run qp w=.ok (a==a'&&b==b') w:=by
 rw[run_equalIn_agg w (d+1) 40 _ _ spBand hpBand];have e0:(Op.eqFields (d+1) #[.int .i64 a,.int .i64 b] #[.int .i64 a',.int .i64 b'] (qp.fieldsOf 40).toList).run qp w=(if(!(a==a'))=true then(pure false:Sem Bool)else Op.eqFields (d+1) #[.int .i64 a,.int .i64 b] #[.int .i64 a',.int .i64 b'] (qp.fieldsOf 40).toList.tail).run qp w:=by kernel_rfl
 rw[e0]
 cases h:(a==a')with
 | false=>simp
 | true =>
   have e1:(Op.eqFields (d+1) #[.int .i64 a,.int .i64 b] #[.int .i64 a',.int .i64 b'] (qp.fieldsOf 40).toList.tail).run qp w=(if(!(b==b'))=true then(pure false:Sem Bool)else pure true).run qp w:=(by kernel_rfl);simp only[Bool.not_true,Bool.false_eq_true,if_false];rw[e1];cases h:(b==b')<;>simp
@[go_sem] theorem eqb_run (a b a' b':Int) (w:World):(Op.equalIn 10000 40 (.agg #[.int .i64 a,.int .i64 b]) (.agg #[.int .i64 a',.int .i64 b'])).run qp w=.ok (a==a'&&b==b') w:=eqb 9998 a b a' b' w
@[go_sem] theorem neqb_run (a b a' b':Int) (w:World):(binOp .neq 40 (.agg #[.int .i64 a,.int .i64 b]) (.agg #[.int .i64 a',.int .i64 b'])).run qp w=.ok (.bool (!(a==a'&&b==b'))) w:=by
  rw[run_neq_struct,eqb_run];rfl
theorem hmBand:qp.eqGuardType qp.depth 40=false:=by kernel_rfl
@[go_sem] theorem guardb_run (op:BinOp) (p q:Operand) (xs ys:Array Value) (w:World):(eqGuard op 40 p q (.agg xs) (.agg ys)).run qp w=.ok () w:=run_eqGuard_agg w op _ p q xs ys hmBand
theorem qfZ(a b:Int)(w:World):Calls qp 34 #[.int .i64 a,.int .i64 b] w fun e w'=>e=.returned (.agg #[.int .i64 a,.int .i64 b])/\Below w.heap.size w w':=by
 go_enter (sf 34 f34),ntmps34;go_wp2;exact bodyPost_ret (Zh results34 rfl (LoadR.load_2 jY je (by go_cell) (by go_cell))) rfl ⟨rfl,(Below.refl _ w).alloc ql _⟩
theorem zW{α:Type}{W:World}{a b k:Nat}{enc:α->List Value}{l:List α}{v0 v1 v2 v3 v4:Value}(h:qi W k enc (some ⟨a,0,none⟩) l)(e:a≠b):qi (set5 W b v0 v1 v2 v3 v4) k enc (some ⟨a,0,none⟩) l:=fun hl=>by
 obtain⟨b',o',e',h⟩:=h hl;cases e';exact⟨_,_,rfl,fun i x hx j v hj=>(World.cell?_of_block (qfO e)).trans (h i x hx j v hj)⟩
end Go.Proofs.Tryz
