/-
  Lemmas about the program and the machine (Gl to Rets), upon which the last text of this claim rests; no condition.
-/
import Derived.Deep.QuietTactic
import Derived.BigQuiet
import Derived.RegionTactic
import Derived.LoopTactic
import Derived.Outline
import Derived.Below
import Derived.Handy
import Derived.Lib.SmallJoins
import Derived.Deep.RegionHeld3
import Derived.Deep.Cut
import Derived.Deep.CutRange
import Derived.Deep.DeepCutAuto
import Derived.Deep.Light
import Derived.Test.YtjkbbnphdbgjiaaGreatDoorE01
set_option linter.unusedSimpArgs false
set_option linter.unusedVariables false
set_option maxRecDepth 100000
set_option maxHeartbeats 2000000
namespace Go.Proofs.Tryz
open Go
def fOf(f:Nat):Value:=.func (.func f) #[] #[]
def chkA:Array Value:=#[fOf 170,fOf 171,fOf 172,fOf 173,fOf 168]
structure Globs (w:World):Prop where
 c:∀(i:Nat) (v:Value),chkA[i]? = some v->w.cell? ⟨0,i,none⟩=some v
end Go.Proofs.Tryz
namespace Go.Proofs.Tryz
open Go Go.Load Go.RowKit
theorem zS{n lo hi:Int}:btw n lo hi=true↔lo<=n/\n<=hi:=by unfold btw;simp
theorem zM(a b c:Int)(w:World):Calls qp 74 #[.int .i64 a,.int .i64 b,.int .i64 c] w fun e w'=>e=.returned (.bool (btw a b c))/\w=w':=by
 by_cases h1:b<=a
 ·go_enter (sf 74 f74),ntmps74;go_wp2;go_ret;exact⟨by simp[btw,h1],rfl⟩
 ·go_enter (sf 74 f74),ntmps74;go_wp2;go_ret;exact⟨by simp[btw];omega,rfl⟩
theorem ja(a:Int)(w:World):Calls qp 56 #[.int .i64 a] w fun e w'=>e=.returned (.bool (btw a 0 99))/\w=w':=by
 go_enter (sf 56 f56),ntmps56;go_wp2_with (go_at_call 74;(with_reducible refine(zM _ _ _ _).mono ?_);rintro e w1 ⟨rfl,rfl⟩);go_ret;exact⟨rfl,rfl⟩
def za(n many:Int):Int:=if btw n 0 (many-1)=true then 0 else 6
theorem jO(n many:Int)(w:World)(h1:0<=many)(h2:many<=1000):Calls qp 44 #[.int .i64 n,.int .i64 many] w fun e w'=>e=.returned (.int .i64 (za n many))/\w=w':=by
 have hw:=zM n 0 (many-1);unfold za
 generalize btw n 0 (many-1)=r at *
 cases r
 all_goals
  go_enter (sf 44 f44),ntmps44;go_wp2_with (go_at_call 74;(with_reducible refine(hw _).mono ?_);rintro e w1 ⟨rfl,rfl⟩);go_ret;exact⟨rfl,rfl⟩
theorem yV(x0 x1 x2 x3 x4 x5:Value)(w:World):Calls qp 63 #[.agg #[x0,x1,x2,x3,x4,x5]] w fun e w'=>e=.returned (.int .i64 0)/\Below w.heap.size w w':=by
 go_enter (sf 63 f63),ntmps63;go_wp2;go_ret;exact⟨rfl,by go_grown⟩
def zZ(n:Nat)(one two:Int):Int:=if(btw one 0 (n-1)&&btw two 0 (n-1))=false then 6 else if one=two then 8 else 0
theorem Jg(ta:Option Addr)(n tc:Nat)(hn:n<=1000)(x1 x2 x3 x4 x5:Value)(one two:Int)(w:World) :
 Calls qp 174 #[.agg #[.slice ta n tc,x1,x2,x3,x4,x5],.int .i64 one,.int .i64 two] w fun e w'=>e=.returned (.int .i64 (zZ n one two))/\Below w.heap.size w w':=by
 have h1:=zM one 0 ((n:Int)-1);have h2:=zM two 0 ((n:Int)-1);unfold zZ
 generalize btw one 0 ((n:Int)-1)=r1 at *
 generalize btw two 0 ((n:Int)-1)=r2 at *
 cases r1<;>cases r2
 all_goals
  go_enter (sf 174 f174),ntmps174;go_wp2_with (first|(go_at_call 74;(with_reducible refine(h1 _).mono ?_);rintro e w1 ⟨rfl,rfl⟩)|(go_at_call 74;(with_reducible refine(h2 _).mono ?_);rintro e w1 ⟨rfl,rfl⟩))
 all_goals
  go_ret;exact⟨by simp_all,by go_grown⟩
def qi{α:Type}(w:World)(k:Nat)(enc:α->List Value)(a:Option Addr)(l:List α):Prop :=
 1<=l.length->∃b o,a=some ⟨b,o,none⟩/\∀(i:Nat) (x:α),l[i]? = some x->∀(j:Nat) (v:Value),(enc x)[j]? = some v->w.cell? ⟨b,o+i*k+j,none⟩=some v
theorem qi.keep{α:Type}{w w1:World}{k:Nat}{enc:α->List Value}{a:Option Addr}{l:List α}(h:qi w k enc a l)(hB:Below w.heap.size w w1):qi w1 k enc a l:=fun hl=>by
 obtain⟨b,o,e,h⟩:=h hl;exact⟨b,o,e,fun i x hx j v hv=>qb _ hB (h i x hx j v hv)⟩
theorem qi.take{α:Type}{w:World}{k:Nat}{enc:α->List Value}{a:Option Addr}{l:List α}(h:qi w k enc a l)(n:Nat):qi w k enc a (l.take n):=fun hl=>by
 obtain⟨b,o,e,h⟩:=h (by rw[List.length_take]at hl;omega);refine⟨b,o,e,fun i x hx=>h i x ?_⟩;rw[List.getElem?_take]at hx;split at hx
 ·exact hx
 ·cases hx
def encS(s:ByteArray):List Value:=[.string s]
def encI(n:Int):List Value:=[.int .i64 n]
theorem any_take_succ{α:Type}{l:List α}{k:Nat}{x:α}(p:α->Bool)(h:l[k]? = some x)(hn:(l.take k).any p=false):(l.take (k+1)).any p=p x:=by
 obtain⟨hk,rfl⟩:=qB h;rw[List.take_succ_eq_append_getElem hk,List.any_append,hn];simp
theorem Zo{α:Type}{l:List α}{k:Nat}{x:α}(p:α->Bool)(h:l[k]? = some x)(hp:p x=true):l.any p=true:=List.any_eq_true.2 ⟨x,qI h,hp⟩
theorem qad(s:ByteArray)(l:List ByteArray)(a:Option Addr)(c:Nat)(hlen:l.length<=1000)(w:World)(hQ:qi w 1 encS a l) :
 Calls qp 181 #[.slice a l.length c,.string s] w fun e w'=>(∃n:Int,e=.returned (.int .i64 n)/\((0<=n)↔(l.any fun x=>s.toList==x.toList)=true)/\n<=1000)/\w=w':=by
 go_enter (sf 181 f181),ntmps181;go_wp2;go_loopw [8] (fun i wr=>∃k:Nat,i=.int .i64 k/\k<=l.length/\wr=w/\Hid ((l.take k).any (fun x=>s.toList==x.toList)=false)) (fun i _=>l.length-(intOf i).toNat);case atStart=>exact⟨0,rfl,Nat.zero_le _,rfl,qd (by simp)⟩
 case round =>
  obtain⟨k,rfl,hk,rfl,HN⟩:=hrel;by_cases hlt:k<l.length
  ·obtain⟨b,o,rfl,hP⟩:=hQ (by omega);obtain⟨x,hx⟩:∃x,l[k]? = some x:=⟨l[k],by simp[hlt]⟩;have c0:=hP k x hx 0 _ rfl;simp only[Nat.mul_one,Nat.add_zero]at c0;have HX:=qd hx;clear hP hx;obtain⟨r,hr⟩:∃r,(s.toList==x.toList)=r:=⟨_,rfl⟩;have HR:=qd hr
   cases r with
   | true =>
     go_wp2;go_ret;exact⟨⟨k,rfl,⟨fun _=>Zo _ HX.out HR.out,fun _=>Int.natCast_nonneg k⟩,by omega⟩,rfl⟩
   | false =>
     go_wp2;go_roundw;(case rel=>exact⟨k+1,rfl,by omega,trivial,qd (by rw[any_take_succ _ HX.out HN.out];exact HR.out)⟩);case measure=>simp[intOf];omega
  ·obtain rfl:k=l.length:=(by omega);have hany:=HN.out;rw[List.take_length]at hany;have HA:=qd hany;clear hany;go_wp2;go_ret;refine⟨⟨-1,rfl,⟨fun h=>absurd h (by decide),fun h=>?_⟩,by omega⟩,rfl⟩;rw[HA.out]at h;cases h
theorem YN(s:ByteArray)(l:List ByteArray)(a:Option Addr)(c:Nat)(hlen:l.length<=1000)(w:World)(hQ:qi w 1 encS a l) :
 Calls qp 176 #[.slice a l.length c,.string s] w fun e w'=>e=.returned (.bool (l.any fun x=>s.toList==x.toList))/\w=w':=by
 have hI:=qad s l a c hlen w hQ;clear hQ;obtain⟨r,hr⟩:∃r,(l.any fun x=>s.toList==x.toList)=r:=⟨_,rfl⟩;simp only[hr]at hI⊢;go_enter (sf 176 f176),ntmps176;go_wp2_with (go_at_call 181;(with_reducible refine hI.mono ?_);rintro e w1 ⟨⟨n,rfl,hn,hn2⟩,rfl⟩);go_ret;refine⟨?_,rfl⟩;cases r<;>simp at hn<;>simp<;>omega
def Ja(i:Nat)(c:UInt8):Bool:=!btw c.toNat 97 122 && !(decide (0<i)&&btw c.toNat 48 57)
def Xo(f:Nat->UInt8->Bool):Nat->List UInt8->Bool
 | _,[]=>false
 | i,c::l=>f i c||Xo f (i+1) l
theorem qcM(f:Nat->UInt8->Bool){l:List UInt8}{k:Nat}{c:UInt8}(h:l[k]? = some c):Xo f k (l.drop k)=(f k c||Xo f (k+1) (l.drop (k+1))):=by
 obtain⟨hk,rfl⟩:=qB h;rw[List.drop_eq_getElem_cons hk];rfl
def Yk(s:ByteArray):Bool:=(1<=s.size&&s.size<=9) && !Xo Ja 0 s.data.toList
theorem qaW(k:Nat)(n:Nat)(x:UInt8)(hn:x.toNat=n){r:Bool}(hr:Ja k x=r) :
 (97<=(n:Int)/\(n:Int)<=122/\r=false)\/(¬97<=(n:Int)/\k=0/\r=true)\/(¬97<=(n:Int)/\(0:Int)<k/\48<=(n:Int)/\(n:Int)<=57/\r=false)\/(¬97<=(n:Int)/\(0:Int)<k/\¬48<=(n:Int)/\r=true)\/(¬97<=(n:Int)/\(0:Int)<k/\48<=(n:Int)/\¬(n:Int)<=57/\r=true) \/
   (97<=(n:Int)/\¬(n:Int)<=122/\k=0/\r=true)\/(97<=(n:Int)/\¬(n:Int)<=122/\(0:Int)<k/\48<=(n:Int)/\¬(n:Int)<=57/\r=true):=by
 subst hr;unfold Ja btw;rw[hn];by_cases a:97<=(n:Int)<;>by_cases b:(n:Int)<=122<;>by_cases c:0<k<;>by_cases d:48<=(n:Int)<;>by_cases e:(n:Int)<=57<;>simp[a,b,c,d,e]<;>omega
theorem conv_any(s:ByteArray)(w:World):∃cap W1,(convert 9 203 (.string s)).run qp w=.ok (.slice (some ⟨w.heap.size,0,none⟩) s.size cap) W1/\Below w.heap.size w W1/\∀(i:Nat) (x:UInt8),s.data.toList[i]? = some x->W1.cell? ⟨w.heap.size,i,none⟩=some (.int .u8 x.toNat) :=
 ⟨_,_,Lib.run_convert_string_bytes w _ _ 5 s ((qF _).trans Tryz.underlying9) ((qF _).trans Tryz.underlying203) ((qF _).trans Tryz.underlying5),Joins.below_bytesWorld _ w _ s ql,fun i x hx=>by
   have hi:i<s.size:=by have:=(qB hx).1;simpa using this
   rw[Lib.bytesWorld_cell w _ s i hi,List.getD_eq_getElem?_getD,hx];rfl⟩
theorem qdf(s:ByteArray)(hs:s.size<=100)(w:World):Calls qp 175 #[.string s] w fun e w'=>e=.returned (.bool (Yk s))/\Below w.heap.size w w':=by
 obtain⟨R,hR⟩:∃R,Yk s=R:=⟨_,rfl⟩;rw[hR];unfold Yk at hR;by_cases h1:1<=s.size/\s.size<=9
 ·simp only[h1,decide_true,Bool.and_self,Bool.true_and]at hR;have HR:=qd hR;clear hR;obtain⟨cap,W1,hconv,hB1,hBy⟩:=conv_any s w;have HBy:=qd hBy;clear hBy;have hsz:=hB1.size;go_enter (sf 175 f175),ntmps175;go_wp2;go_loopw [16] (fun i wr=>∃k:Nat,i=.int .i64 k/\k<=s.size/\wr=W1/\Hid ((!Xo Ja k (s.data.toList.drop k))=R)) (fun i _=>s.size-(intOf i).toNat);case atStart=>exact⟨0,rfl,Nat.zero_le _,rfl,HR⟩
  case round =>
   obtain⟨k,rfl,hk,rfl,HE⟩:=hrel;by_cases hlt:k<s.size
   ·obtain⟨x,hx⟩:∃x,s.data.toList[k]? = some x:=⟨s.data.toList[k]'(by simpa using hlt),by simp⟩;have c0:=HBy.out k x hx;have hA:=HE.out;rw[qcM _ hx]at hA;have hx1:(x.toNat:Int)<=255:=(by have:=x.toNat_lt;omega);have hx0:(0:Int)<=x.toNat:=Int.natCast_nonneg _;obtain⟨r,hr⟩:∃r,Ja k x=r:=⟨_,rfl⟩;rw[hr]at hA;have HA:=qd hA;clear hA hx;have hc:=qaW k _ x rfl hr;clear hr
    generalize(x.toNat:Int)=n at *
    rcases hc with⟨g1,g2,rfl⟩|⟨g1,rfl,rfl⟩|⟨g1,g2,g3,g4,rfl⟩|⟨g1,g2,g3,rfl⟩|⟨g1,g2,g3,g4,rfl⟩|⟨g1,g2,rfl,rfl⟩|⟨g1,g2,g3,g4,g5,rfl⟩
    ·go_wp2;go_roundw;(case rel=>exact⟨k+1,rfl,by omega,(by first|rfl|trivial),qd (by simpa using HA.out)⟩);case measure=>simp[intOf];omega
    ·go_wp2;go_ret;exact⟨by have e2:=HA.out;simp at e2;rw[e2];rfl,hB1⟩
    ·go_wp2;go_roundw;(case rel=>exact⟨k+1,rfl,by omega,(by first|rfl|trivial),qd (by simpa using HA.out)⟩);case measure=>simp[intOf];omega
    ·go_wp2;go_ret;exact⟨by have e2:=HA.out;simp at e2;rw[e2];rfl,hB1⟩
    ·go_wp2;go_ret;exact⟨by have e2:=HA.out;simp at e2;rw[e2];rfl,hB1⟩
    ·go_wp2;go_ret;exact⟨by have e2:=HA.out;simp at e2;rw[e2];rfl,hB1⟩
    ·go_wp2;go_ret;exact⟨by have e2:=HA.out;simp at e2;rw[e2];rfl,hB1⟩
   ·obtain rfl:k=s.size:=(by omega);have hA:=HE.out;rw[List.drop_eq_nil_of_le (by simp)]at hA;have HA:=qd hA;clear hA;go_wp2;go_ret;exact⟨by rw[<-HA.out];rfl,hB1⟩
 ·have hN:R=false:=by
   rw[<-hR];by_cases a:1<=s.size
   ·have b:¬s.size<=9:=fun b=>h1 ⟨a,b⟩;simp[b]
   ·simp[a]
  rw[hN];go_enter (sf 175 f175),ntmps175;go_wp2
  all_goals
   go_ret;exact⟨rfl,by go_grown⟩
structure GrpM where
 one:Int
 two:Int
 lo:Int
 hi:Int
structure WayM where
 l:List Int
 a:Option Addr
 c:Nat
structure OrdM where
 fr:Int
 toT:Int
 ws:List WayM
 a:Option Addr
 c:Nat
structure HldM where
 g:Int
 m:Int
 b:Int
 e:Int
structure CalM where
 fr:Int
 toT:Int
 co:Int
 cl:Int
 se:Int
structure DayM where
 ts:List ByteArray
 ta:Option Addr
 tc:Nat
 gs:List GrpM
 ga:Option Addr
 gc:Nat
 os:List OrdM
 oa:Option Addr
 oc:Nat
 hs:List HldM
 ha:Option Addr
 hc:Nat
 cs:List CalM
 ca:Option Addr
 cc:Nat
def JV(g:GrpM):List Value:=[.int .i64 g.one,.int .i64 g.two,.int .i64 g.lo,.int .i64 g.hi]
def xu(x:WayM):List Value:=[.slice x.a x.l.length x.c]
def Yf(o:OrdM):List Value:=[.int .i64 o.fr,.int .i64 o.toT,.slice o.a o.ws.length o.c]
def qcV(h:HldM):List Value:=[.int .i64 h.g,.int .i64 h.m,.int .i64 h.b,.int .i64 h.e]
def YQ(c:CalM):List Value:=[.int .i64 c.fr,.int .i64 c.toT,.int .i64 c.co,.int .i64 c.cl,.int .i64 c.se]
def dv(D:DayM):Value:=.agg #[.slice D.ta D.ts.length D.tc,.slice D.ga D.gs.length D.gc,.slice D.oa D.os.length D.oc,.slice D.ha D.hs.length D.hc,.slice D.ca D.cs.length D.cc]
def dm(D:DayM)(m:Option Nat):Value:=.agg #[.slice D.ta D.ts.length D.tc,.slice D.ga D.gs.length D.gc,.slice D.oa D.os.length D.oc,.slice D.ha D.hs.length D.hc,.slice D.ca D.cs.length D.cc,.map m]
structure DayAt (w:World) (D:DayM):Prop where
 ts:qi w 1 encS D.ta D.ts
 gs:qi w 4 JV D.ga D.gs
 os:qi w 3 Yf D.oa D.os
 ws:∀o∈D.os,qi w 1 xu o.a o.ws
 ls:∀o∈D.os,∀x∈o.ws,qi w 1 encI x.a x.l
 hs:qi w 4 qcV D.ha D.hs
 cs:qi w 5 YQ D.ca D.cs
theorem DayAt.keep{w w1:World}{D:DayM}(h:DayAt w D)(hB:Below w.heap.size w w1):DayAt w1 D :=
 ⟨h.ts.keep hB,h.gs.keep hB,h.os.keep hB,fun o ho=>(h.ws o ho).keep hB,fun o ho x hx=>(h.ls o ho x hx).keep hB,h.hs.keep hB,h.cs.keep hB⟩
structure DaySm (D:DayM):Prop where
 ts:D.ts.length<=20/\D.ts.length<=D.tc
 nm:∀s∈D.ts,s.size<=100
 gs:D.gs.length<=20/\D.gs.length<=D.gc
 os:D.os.length<=20/\D.os.length<=D.oc
 ws:∀o∈D.os,o.ws.length<=20/\o.ws.length<=o.c
 ls:∀o∈D.os,∀x∈o.ws,x.l.length<=20/\x.l.length<=x.c
 hs:D.hs.length<=20/\D.hs.length<=D.hc
 cs:D.cs.length<=20/\D.cs.length<=D.cc
def zA{α:Type}(f:Nat->α->Int):Nat->List α->Int
 | _,[]=>0
 | i,g::l=>if f i g≠0 then f i g else zA f (i+1) l
theorem zT{α:Type}(f:Nat->α->Int){l:List α}{k:Nat}{g:α}(h:l[k]? = some g):zA f k (l.drop k)=if f k g≠0 then f k g else zA f (k+1) (l.drop (k+1)):=by
 obtain⟨hk,rfl⟩:=qB h;rw[List.drop_eq_getElem_cons hk];rfl
def qbG(ts:List ByteArray)(i:Nat)(s:ByteArray):Int:=if Yk s=false then 4 else if((ts.take i).any fun x=>s.toList==x.toList)=true then 5 else 0
def QB(D:DayM):Int:=if btw D.ts.length 2 5=false then 2 else zA (qbG D.ts) 0 D.ts
theorem qgb(D:DayM)(m:Option Nat)(w:World)(h:DayAt w D)(hs:DaySm D):Calls qp 170 #[dm D m] w fun e w'=>e=.returned (.int .i64 (QB D))/\Below w.heap.size w w':=by
 have hts:=h.ts;have hsm:=hs.ts;have hnm:=hs.nm;obtain⟨R,hR⟩:∃R,QB D=R:=⟨_,rfl⟩;rw[hR];unfold QB at hR;unfold dm;clear h hs;obtain⟨ts,ta,tc,gs,ga,gc,os,oa,oc,hs,ha,hc,cs,ca,cc⟩:=D
 simp only at *
 generalize Value.slice ga gs.length gc=x1;generalize Value.slice oa os.length oc=x2;generalize Value.slice ha hs.length hc=x3;generalize Value.slice ca cs.length cc=x4;have hwi:=zM ts.length 2 5;obtain⟨r,hr⟩:∃r,btw ts.length 2 5=r:=⟨_,rfl⟩;rw[hr]at hwi hR
 cases r with
 | false =>
   simp at hR;subst hR;clear hts hnm;go_enter (sf 170 f170),ntmps170;go_wp2_with (go_at_call 74;(with_reducible refine(hwi _).mono ?_);rintro e w1 ⟨rfl,rfl⟩);go_ret;exact⟨rfl,by go_grown⟩
 | true =>
   have hlen:=zS.1 hr;simp at hR;have HR:=qd hR;obtain⟨b,o,rfl,hP⟩:=hts (by omega);have HP:=qd hP;have HN:=qd hnm;have HT:=qd hts;clear hR hP hnm hr hts;go_enter (sf 170 f170),ntmps170;go_wp2_with (go_at_call 74;(with_reducible refine(hwi _).mono ?_);rintro e w1 ⟨rfl,rfl⟩);obtain⟨W,hW⟩:∃W,w.alloc (Obj.cells #[.slice (some ⟨b,o,none⟩) ts.length tc,x1,x2,x3,x4,.map m] 73)=W:=⟨_,rfl⟩;have k0:W.cell? ⟨w.heap.size,0,none⟩=some (.slice (some ⟨b,o,none⟩) ts.length tc):=(by subst hW;go_cell);have hBW:Below w.heap.size w W:=(by subst hW;go_grown);rw[hW];clear hW;go_loopw [15] (fun i wr=>∃k:Nat,i=.int .i64 k/\k<=ts.length/\Below W.heap.size W wr/\Hid (zA (qbG ts) k (ts.drop k)=R)) (fun i _=>ts.length-(intOf i).toNat);case atStart=>exact⟨0,rfl,by omega,Below.refl _ _,HR⟩
   case round =>
    obtain⟨k,rfl,hk,hBr,HE⟩:=hrel;have k0:=qb _ hBr k0;have hBw:=bcl hBW hBr;by_cases hlt:k<ts.length
    ·have hkc:(k:Int)<=(tc:Int):=(by omega);obtain⟨s,hx⟩:∃x,ts[k]? = some x:=⟨ts[k],by simp[hlt]⟩;have c0:=qb _ hBw (HP.out k s hx 0 _ rfl);simp only[Nat.mul_one,Nat.add_zero]at c0;have hnm:=fun W=>qdf s (HN.out s (qI hx)) W;have hco:=fun(W:World) (hB:Below w.heap.size w W)=>YN s (ts.take k) (some ⟨b,o,none⟩) tc (by rw[List.length_take];omega) W ((HT.out.keep hB).take k);rw[List.length_take,Nat.min_eq_left hk]at hco;have hA:=HE.out;rw[zT _ hx]at hA;obtain⟨r1,h1⟩:∃r,Yk s=r:=⟨_,rfl⟩;obtain⟨r2,h2⟩:∃r,((ts.take k).any fun x=>s.toList==x.toList)=r:=⟨_,rfl⟩;have ht:qbG ts k s=if r1=false then 4 else if r2=true then 5 else 0:=(by unfold qbG;rw[h1,h2]);rw[ht]at hA;simp only[h1]at hnm;simp only[h2]at hco;clear ht h1 h2 hx;have HA:=qd hA;clear hA
     cases r1 with
     | false =>
       go_wp2_with (go_at_call 175;(with_reducible refine(hnm _).mono ?_);rintro e w1 ⟨rfl,hB1⟩;have k0:=qb _ hB1 k0);go_ret;exact⟨by have e:=HA.out;simp at e;rw[<-e];rfl,bcl hBw hB1⟩
     | true =>
       cases r2 with
       | true =>
         go_wp2_with (first|(go_at_call 175;(with_reducible refine(hnm _).mono ?_);rintro e w1 ⟨rfl,hB1⟩;have k0:=qb _ hB1 k0)|(go_at_call 176;refine(hco _ (bcl hBw hB1)).mono ?_;rintro e w2 ⟨rfl,rfl⟩));go_ret;exact⟨by have e:=HA.out;simp at e;rw[<-e];rfl,bcl hBw hB1⟩
       | false =>
         go_wp2_with (first|(go_at_call 175;(with_reducible refine(hnm _).mono ?_);rintro e w1 ⟨rfl,hB1⟩;have k0:=qb _ hB1 k0)|(go_at_call 176;refine(hco _ (bcl hBw hB1)).mono ?_;rintro e w2 ⟨rfl,rfl⟩));go_roundw;(case rel=>exact⟨k+1,rfl,by omega,bcl hBr hB1,qd (by simpa using HA.out)⟩);case measure=>simp[intOf];omega
    ·obtain rfl:k=ts.length:=(by omega);have hA:=HE.out;rw[List.drop_eq_nil_of_le ql]at hA;have HA:=qd hA;clear hA;go_wp2;go_ret;exact⟨by have e:=HA.out;simp[zA]at e;rw[<-e];rfl,hBw⟩
structure B6 (w:World) (b:Nat) (x0 x1 x2 x3 x4 x5:Value):Prop where
 c0:w.cell? ⟨b,0,none⟩=some x0
 c1:w.cell? ⟨b,1,none⟩=some x1
 c2:w.cell? ⟨b,2,none⟩=some x2
 c3:w.cell? ⟨b,3,none⟩=some x3
 c4:w.cell? ⟨b,4,none⟩=some x4
 c5:w.cell? ⟨b,5,none⟩=some x5
theorem B6.keep{w w1:World}{b:Nat}{x0 x1 x2 x3 x4 x5:Value}(h:B6 w b x0 x1 x2 x3 x4 x5)(hB:Below w.heap.size w w1):B6 w1 b x0 x1 x2 x3 x4 x5 :=
 ⟨qb _ hB h.c0,qb _ hB h.c1,qb _ hB h.c2,qb _ hB h.c3,qb _ hB h.c4,qb _ hB h.c5⟩
theorem B6.new(w:World)(x0 x1 x2 x3 x4 x5:Value)(t:TypeId):B6 (w.alloc (Obj.cells #[x0,x1,x2,x3,x4,x5] t)) w.heap.size x0 x1 x2 x3 x4 x5 :=
 ⟨by go_cell,by go_cell,by go_cell,by go_cell,by go_cell,by go_cell⟩
def grpA(n:Nat)(g:GrpM):Int:=if zZ n g.one g.two≠0 then zZ n g.one g.two else if ¬0<=g.lo\/¬g.lo<=g.hi\/¬g.hi<=6\/¬g.hi-g.lo<3 then 1 else 0
def yz(D:DayM):Int:=if 4<D.gs.length then 2 else zA (fun _ g=>grpA D.ts.length g) 0 D.gs
theorem qdc(n:Nat)(g:GrpM){r:Int}(h:grpA n g=r):(zZ n g.one g.two≠0/\r=zZ n g.one g.two) \/
 (zZ n g.one g.two=0/\g.lo<0/\r=1)\/(zZ n g.one g.two=0/\¬g.lo<0/\g.hi<g.lo/\r=1)\/(zZ n g.one g.two=0/\¬g.lo<0/\¬g.hi<g.lo/\6<g.hi/\r=1) \/
 (zZ n g.one g.two=0/\¬g.lo<0/\¬g.hi<g.lo/\¬6<g.hi/\3<=g.hi-g.lo/\r=1)\/(zZ n g.one g.two=0/\¬g.lo<0/\¬g.hi<g.lo/\¬6<g.hi/\¬3<=g.hi-g.lo/\r=0):=by
 subst h;unfold grpA;by_cases a:zZ n g.one g.two=0<;>by_cases b:g.lo<0<;>by_cases c:g.hi<g.lo<;>by_cases d:6<g.hi<;>by_cases e:3<=g.hi-g.lo<;>simp[a,b,c,d,e]<;>omega
theorem qdb(D:DayM)(m:Option Nat)(w:World)(h:DayAt w D)(hs:DaySm D):Calls qp 171 #[dm D m] w fun e w'=>e=.returned (.int .i64 (yz D))/\Below w.heap.size w w':=by
 have hgs:=h.gs;have hsm:=hs.gs;have htl:=hs.ts.1;obtain⟨R,hR⟩:∃R,yz D=R:=⟨_,rfl⟩;rw[hR];unfold yz at hR;unfold dm;clear h hs;obtain⟨ts,ta,tc,gs,ga,gc,os,oa,oc,hs,ha,hc,cs,ca,cc⟩:=D
 simp only at *
 generalize Value.slice oa os.length oc=x2;generalize Value.slice ha hs.length hc=x3;generalize Value.slice ca cs.length cc=x4;have hen:=fun one two=>Jg ta ts.length tc (by omega) (.slice ga gs.length gc) x2 x3 x4 (.map m) one two
 generalize hN:ts.length=N at *
 clear hN;by_cases hlen:4<gs.length
 ·simp[hlen]at hR;subst hR;clear hgs;go_enter (sf 171 f171),ntmps171;go_wp2;go_ret;exact⟨rfl,by go_grown⟩
 ·simp[hlen]at hR;have HR:=qd hR;have HT:=qd hgs;clear hR hgs;go_enter (sf 171 f171),ntmps171;obtain⟨W,hW⟩:∃W,w.alloc (Obj.cells #[.slice ta N tc,.slice ga gs.length gc,x2,x3,x4,.map m] 73)=W:=⟨_,rfl⟩;have h6:B6 W w.heap.size (.slice ta N tc) (.slice ga gs.length gc) x2 x3 x4 (.map m):=by subst hW;exact B6.new ..
  have hBW:Below w.heap.size w W:=by subst hW;go_grown
  have k1:=h6.c1;go_wp2;try rw[hW]
  clear hW k1;go_loopw [16] (fun i wr=>∃k:Nat,i=.int .i64 k/\k<=gs.length/\Below W.heap.size W wr/\Hid (zA (fun _ g=>grpA N g) k (gs.drop k)=R)) (fun i _=>gs.length-(intOf i).toNat);case atStart=>exact⟨0,rfl,by omega,Below.refl _ _,HR⟩
  case round =>
   obtain⟨k,rfl,hk,hBr,HE⟩:=hrel;obtain⟨k0,k1,k2,k3,k4,k5⟩:=h6.keep hBr;have hBw:=bcl hBW hBr;have hz:=lt_of_cell k0;have hzW:=hBr.size;simp only at hz;by_cases hlt:k<gs.length
   ·obtain⟨b,o,rfl,hP⟩:=HT.out (by omega);obtain⟨g,hx⟩:∃x,gs[k]? = some x:=⟨gs[k],by simp[hlt]⟩;have hkc:(k:Int)<=(gc:Int):=(by omega);have c0:=qb _ hBw (hP k g hx 0 _ rfl);have c1:=qb _ hBw (hP k g hx 1 _ rfl);have c2:=qb _ hBw (hP k g hx 2 _ rfl);have c3:=qb _ hBw (hP k g hx 3 _ rfl);simp only[Nat.add_zero]at c0;have hA:=HE.out;rw[zT _ hx]at hA;clear hP hx;obtain⟨one,two,lo,hi⟩:=g;have hen:=hen one two;obtain⟨r,hr⟩:∃r,grpA N ⟨one,two,lo,hi⟩=r:=⟨_,rfl⟩;rw[hr]at hA;have HA:=qd hA;clear hA;have hc:=qdc _ _ hr;clear hr
    simp only at *
    generalize zZ N one two=E at *
    rcases hc with⟨g1,rfl⟩|⟨rfl,g2,rfl⟩|⟨rfl,g2,g3,rfl⟩|⟨rfl,g2,g3,g4,rfl⟩|⟨rfl,g2,g3,g4,g5,rfl⟩|⟨rfl,g2,g3,g4,g5,rfl⟩
    ·have g2:(r != 0)=true:=(by simpa using g1);go_wp2_with (go_at_call 174;(with_reducible refine(hen _).mono ?_);rintro e w1 ⟨rfl,hB1⟩;have hB2:=bcl (w:=w) (by go_grown) hB1;have hB3:=bcl (w:=W) (by go_grown) hB1;obtain⟨hc,hg⟩:=zY hB1;have hz1:=hB1.size;simp at hz1);go_ret;exact⟨by have e:=HA.out;simp[g1]at e;rw[<-e];rfl,by go_grown⟩
    ·go_wp2_with (go_at_call 174;(with_reducible refine(hen _).mono ?_);rintro e w1 ⟨rfl,hB1⟩;have hB2:=bcl (w:=w) (by go_grown) hB1;have hB3:=bcl (w:=W) (by go_grown) hB1;obtain⟨hc,hg⟩:=zY hB1;have hz1:=hB1.size;simp at hz1);go_ret;exact⟨by have e:=HA.out;simp at e;rw[<-e];rfl,by go_grown⟩
    ·go_wp2_with (go_at_call 174;(with_reducible refine(hen _).mono ?_);rintro e w1 ⟨rfl,hB1⟩;have hB2:=bcl (w:=w) (by go_grown) hB1;have hB3:=bcl (w:=W) (by go_grown) hB1;obtain⟨hc,hg⟩:=zY hB1;have hz1:=hB1.size;simp at hz1);go_ret;exact⟨by have e:=HA.out;simp at e;rw[<-e];rfl,by go_grown⟩
    ·go_wp2_with (go_at_call 174;(with_reducible refine(hen _).mono ?_);rintro e w1 ⟨rfl,hB1⟩;have hB2:=bcl (w:=w) (by go_grown) hB1;have hB3:=bcl (w:=W) (by go_grown) hB1;obtain⟨hc,hg⟩:=zY hB1;have hz1:=hB1.size;simp at hz1);go_ret;exact⟨by have e:=HA.out;simp at e;rw[<-e];rfl,by go_grown⟩
    ·have hwr:wrap64 (hi-lo)=hi-lo:=(by unfold wrap64;omega);go_wp2_with (go_at_call 174;(with_reducible refine(hen _).mono ?_);rintro e w1 ⟨rfl,hB1⟩;have hB2:=bcl (w:=w) (by go_grown) hB1;have hB3:=bcl (w:=W) (by go_grown) hB1;obtain⟨hc,hg⟩:=zY hB1;have hz1:=hB1.size;simp at hz1);go_ret;exact⟨by have e:=HA.out;simp at e;rw[<-e];rfl,by go_grown⟩
    ·have hwr:wrap64 (hi-lo)=hi-lo:=(by unfold wrap64;omega);go_wp2_with (go_at_call 174;(with_reducible refine(hen _).mono ?_);rintro e w1 ⟨rfl,hB1⟩;have hB2:=bcl (w:=w) (by go_grown) hB1;have hB3:=bcl (w:=W) (by go_grown) hB1;obtain⟨hc,hg⟩:=zY hB1;have hz1:=hB1.size;simp at hz1);go_roundw;(case rel=>exact⟨k+1,rfl,by omega,(by first|exact hB3|go_grown),qd (by simpa using HA.out)⟩);case measure=>simp[intOf];omega
   ·obtain rfl:k=gs.length:=(by omega);have hA:=HE.out;rw[List.drop_eq_nil_of_le ql]at hA;have HA:=qd hA;clear hA;go_wp2;go_ret;exact⟨by have e:=HA.out;simp[zA]at e;rw[<-e];rfl,hBw⟩
def hldA(n:Nat)(h:HldM):Int:=if btw h.g 0 (n-1)=false then 6 else if(btw h.m 1 6&&btw h.b 0 99&&btw h.e 0 99)=false then 1 else if h.e<=h.b then 7 else 0
def jN(D:DayM):Int:=if 3<D.hs.length then 2 else zA (fun _ h=>hldA D.gs.length h) 0 D.hs
theorem qeI(D:DayM)(m:Option Nat)(w:World)(h:DayAt w D)(hs:DaySm D):Calls qp 173 #[dm D m] w fun e w'=>e=.returned (.int .i64 (jN D))/\Below w.heap.size w w':=by
 have hhs:=h.hs;have hsm:=hs.hs;have htl:=hs.gs.1;obtain⟨R,hR⟩:∃R,jN D=R:=⟨_,rfl⟩;rw[hR];unfold jN at hR;unfold dm;clear h hs;obtain⟨ts,ta,tc,gs,ga,gc,os,oa,oc,hs,ha,hc,cs,ca,cc⟩:=D
 simp only at *
 generalize Value.slice ta ts.length tc=x2;generalize Value.slice oa os.length oc=x3;generalize Value.slice ca cs.length cc=x4
 generalize hN:gs.length=N at *
 clear hN;by_cases hlen:3<hs.length
 ·simp[hlen]at hR;subst hR;clear hhs;go_enter (sf 173 f173),ntmps173;go_wp2;go_ret;exact⟨rfl,by go_grown⟩
 ·simp[hlen]at hR;have HR:=qd hR;have HT:=qd hhs;clear hR hhs;go_enter (sf 173 f173),ntmps173;obtain⟨W,hW⟩:∃W,w.alloc (Obj.cells #[x2,.slice ga N gc,x3,.slice ha hs.length hc,x4,.map m] 73)=W:=⟨_,rfl⟩;have h6:B6 W w.heap.size x2 (.slice ga N gc) x3 (.slice ha hs.length hc) x4 (.map m):=by subst hW;exact B6.new ..
  have hBW:Below w.heap.size w W:=by subst hW;go_grown
  have k1:=h6.c3;go_wp2;try rw[hW]
  clear hW k1;go_loopw [14] (fun i wr=>∃k:Nat,i=.int .i64 k/\k<=hs.length/\Below W.heap.size W wr/\Hid (zA (fun _ h=>hldA N h) k (hs.drop k)=R)) (fun i _=>hs.length-(intOf i).toNat);case atStart=>exact⟨0,rfl,by omega,Below.refl _ _,HR⟩
  case round =>
   obtain⟨k,rfl,hk,hBr,HE⟩:=hrel;obtain⟨k0,k1,k2,k3,k4,k5⟩:=h6.keep hBr;have hBw:=bcl hBW hBr;have hz:=lt_of_cell k0;have hzW:=hBr.size;simp only at hz;by_cases hlt:k<hs.length
   ·obtain⟨b,o,rfl,hP⟩:=HT.out (by omega);obtain⟨h,hx⟩:∃x,hs[k]? = some x:=⟨hs[k],by simp[hlt]⟩;have hkc:(k:Int)<=(hc:Int):=(by omega);have c0:=qb _ hBw (hP k h hx 0 _ rfl);have c1:=qb _ hBw (hP k h hx 1 _ rfl);have c2:=qb _ hBw (hP k h hx 2 _ rfl);have c3:=qb _ hBw (hP k h hx 3 _ rfl);simp only[Nat.add_zero]at c0;have hA:=HE.out;rw[zT _ hx]at hA;clear hP hx;obtain⟨hg,hm,hb,he⟩:=h;have hw1:=zM hg 0 ((N:Int)-1);have hw2:=zM hm 1 6;have hw3:=ja hb;have hw4:=ja he;rw[show hldA N ⟨hg,hm,hb,he⟩=(if btw hg 0 ((N:Int)-1)=false then(6:Int)else if(btw hm 1 6&&btw hb 0 99&&btw he 0 99)=false then 1 else if he<=hb then 7 else 0)from rfl]at hA
    simp only at *
    generalize btw hg 0 ((N:Int)-1)=r1 at *
    generalize btw hm 1 6=r2 at *
    generalize btw hb 0 99=r3 at *
    generalize btw he 0 99=r4 at *
    have HA:=qd hA;clear hA;cases r1
    ·go_wp2_with (first|(go_at_call 74;(with_reducible refine(hw1 _).mono ?_);rintro e w1 ⟨rfl,rfl⟩)|(go_at_call 74;(with_reducible refine(hw2 _).mono ?_);rintro e w1 ⟨rfl,rfl⟩)|(go_at_call 56;(with_reducible refine(hw3 _).mono ?_);rintro e w1 ⟨rfl,rfl⟩)|(go_at_call 56;(with_reducible refine(hw4 _).mono ?_);rintro e w1 ⟨rfl,rfl⟩));go_ret;exact⟨by have e:=HA.out;simp at e;rw[<-e];rfl,by go_grown⟩
    cases r2
    ·go_wp2_with (first|(go_at_call 74;(with_reducible refine(hw1 _).mono ?_);rintro e w1 ⟨rfl,rfl⟩)|(go_at_call 74;(with_reducible refine(hw2 _).mono ?_);rintro e w1 ⟨rfl,rfl⟩)|(go_at_call 56;(with_reducible refine(hw3 _).mono ?_);rintro e w1 ⟨rfl,rfl⟩)|(go_at_call 56;(with_reducible refine(hw4 _).mono ?_);rintro e w1 ⟨rfl,rfl⟩));go_ret;exact⟨by have e:=HA.out;simp at e;rw[<-e];rfl,by go_grown⟩
    cases r3
    ·go_wp2_with (first|(go_at_call 74;(with_reducible refine(hw1 _).mono ?_);rintro e w1 ⟨rfl,rfl⟩)|(go_at_call 74;(with_reducible refine(hw2 _).mono ?_);rintro e w1 ⟨rfl,rfl⟩)|(go_at_call 56;(with_reducible refine(hw3 _).mono ?_);rintro e w1 ⟨rfl,rfl⟩)|(go_at_call 56;(with_reducible refine(hw4 _).mono ?_);rintro e w1 ⟨rfl,rfl⟩));go_ret;exact⟨by have e:=HA.out;simp at e;rw[<-e];rfl,by go_grown⟩
    cases r4
    ·go_wp2_with (first|(go_at_call 74;(with_reducible refine(hw1 _).mono ?_);rintro e w1 ⟨rfl,rfl⟩)|(go_at_call 74;(with_reducible refine(hw2 _).mono ?_);rintro e w1 ⟨rfl,rfl⟩)|(go_at_call 56;(with_reducible refine(hw3 _).mono ?_);rintro e w1 ⟨rfl,rfl⟩)|(go_at_call 56;(with_reducible refine(hw4 _).mono ?_);rintro e w1 ⟨rfl,rfl⟩));go_ret;exact⟨by have e:=HA.out;simp at e;rw[<-e];rfl,by go_grown⟩
    by_cases hle:he<=hb
    ·go_wp2_with (first|(go_at_call 74;(with_reducible refine(hw1 _).mono ?_);rintro e w1 ⟨rfl,rfl⟩)|(go_at_call 74;(with_reducible refine(hw2 _).mono ?_);rintro e w1 ⟨rfl,rfl⟩)|(go_at_call 56;(with_reducible refine(hw3 _).mono ?_);rintro e w1 ⟨rfl,rfl⟩)|(go_at_call 56;(with_reducible refine(hw4 _).mono ?_);rintro e w1 ⟨rfl,rfl⟩));go_ret;exact⟨by have e:=HA.out;simp[hle]at e;rw[<-e];rfl,by go_grown⟩
    ·go_wp2_with (first|(go_at_call 74;(with_reducible refine(hw1 _).mono ?_);rintro e w1 ⟨rfl,rfl⟩)|(go_at_call 74;(with_reducible refine(hw2 _).mono ?_);rintro e w1 ⟨rfl,rfl⟩)|(go_at_call 56;(with_reducible refine(hw3 _).mono ?_);rintro e w1 ⟨rfl,rfl⟩)|(go_at_call 56;(with_reducible refine(hw4 _).mono ?_);rintro e w1 ⟨rfl,rfl⟩));go_roundw;(case rel=>exact⟨k+1,rfl,by omega,by go_grown,qd (by simpa[hle]using HA.out)⟩);case measure=>simp[intOf];omega
   ·obtain rfl:k=hs.length:=(by omega);have hA:=HE.out;rw[List.drop_eq_nil_of_le ql]at hA;have HA:=qd hA;clear hA;go_wp2;go_ret;exact⟨by have e:=HA.out;simp[zA]at e;rw[<-e];rfl,hBw⟩
theorem Yy(a b c:Int)(w:World):Calls qp 21 #[.int .i64 a,.int .i64 b,.int .i64 c] w fun e w'=>e=.returned (.bool (btw a b c))/\w=w':=by
 by_cases h1:b<=a
 ·go_enter (sf 21 f21),ntmps21;go_wp2;go_ret;exact⟨by simp[btw,h1],rfl⟩
 ·go_enter (sf 21 f21),ntmps21;go_wp2;go_ret;exact⟨by simp[btw];omega,rfl⟩
theorem Zl(n m:Int)(h1:0<=m)(h2:m<=1000)(w:World):Calls qp 50 #[.int .i64 n,.int .i64 m] w fun e w'=>e=.returned (.bool (btw n 0 (m-1)))/\w=w':=by
 have hw:=Yy n 0 (m-1);go_enter (sf 50 f50),ntmps50;go_wp2_with (go_at_call 21;(with_reducible refine(hw _).mono ?_);rintro e w1 ⟨rfl,rfl⟩);go_ret;exact⟨rfl,rfl⟩
theorem Zg(a:Int)(w:World):Calls qp 61 #[.int .i64 a] w fun e w'=>e=.returned (.bool (btw a 0 99))/\w=w':=by
 go_enter (sf 61 f61),ntmps61;go_wp2_with (go_at_call 21;(with_reducible refine(Yy _ _ _ _).mono ?_);rintro e w1 ⟨rfl,rfl⟩);go_ret;exact⟨rfl,rfl⟩
def QH(lo hi a b:Int):Bool:=decide (lo<=hi)&&decide (a<=lo)&&decide (hi<=b)
theorem qcI(lo hi a b:Int)(w:World):Calls qp 108 #[.agg #[.int .i64 lo,.int .i64 hi],.int .i64 a,.int .i64 b] w fun e w'=>e=.returned (.bool (QH lo hi a b))/\Below w.heap.size w w':=by
 unfold QH;by_cases h1:lo<=hi
 ·by_cases h2:a<=lo
  ·go_enter (sf 108 f108),ntmps108;go_wp2;go_ret;exact⟨by simp[h1,h2],by go_grown⟩
  ·go_enter (sf 108 f108),ntmps108;go_wp2;go_ret;exact⟨by simp;omega,by go_grown⟩
 ·go_enter (sf 108 f108),ntmps108;go_wp2;go_ret;exact⟨by simp;omega,by go_grown⟩
structure B5 (w:World) (b:Nat) (x0 x1 x2 x3 x4:Value):Prop where
 c0:w.cell? ⟨b,0,none⟩=some x0
 c1:w.cell? ⟨b,1,none⟩=some x1
 c2:w.cell? ⟨b,2,none⟩=some x2
 c3:w.cell? ⟨b,3,none⟩=some x3
 c4:w.cell? ⟨b,4,none⟩=some x4
theorem B5.keep{w w1:World}{b:Nat}{x0 x1 x2 x3 x4:Value}(h:B5 w b x0 x1 x2 x3 x4)(hB:Below w.heap.size w w1):B5 w1 b x0 x1 x2 x3 x4 :=
 ⟨qb _ hB h.c0,qb _ hB h.c1,qb _ hB h.c2,qb _ hB h.c3,qb _ hB h.c4⟩
theorem B5.new(w:World)(x0 x1 x2 x3 x4:Value)(t:TypeId):B5 (w.alloc (Obj.cells #[x0,x1,x2,x3,x4] t)) w.heap.size x0 x1 x2 x3 x4 :=
 ⟨by go_cell,by go_cell,by go_cell,by go_cell,by go_cell⟩
theorem Xe(ta:Option Addr)(n tc:Nat)(hn:n<=1000)(x1 x2 x3 x4:Value)(one two:Int)(w:World) :
 Calls qp 107 #[.agg #[.slice ta n tc,x1,x2,x3,x4],.int .i64 one,.int .i64 two] w fun e w'=>e=.returned (.int .i64 (zZ n one two))/\Below w.heap.size w w':=by
 have h1:=Zl one n (by omega) (by omega);have h2:=Zl two n (by omega) (by omega);unfold zZ
 generalize btw one 0 ((n:Int)-1)=r1 at *
 generalize btw two 0 ((n:Int)-1)=r2 at *
 cases r1<;>cases r2
 all_goals
  go_enter (sf 107 f107),ntmps107;go_wp2_with (first|(go_at_call 50;(with_reducible refine(h1 _).mono ?_);rintro e w1 ⟨rfl,rfl⟩)|(go_at_call 50;(with_reducible refine(h2 _).mono ?_);rintro e w1 ⟨rfl,rfl⟩))
 all_goals
  go_ret;exact⟨by simp_all,by go_grown⟩
theorem qfR(c:UInt8)(w:World):Calls qp 129 #[.int .u8 c.toNat] w fun e w'=>e=.returned (.bool (btw c.toNat 97 122))/\w=w':=by
 by_cases h1:(97:Int)<=(c.toNat:Int)
 ·go_enter (sf 129 f129),ntmps129;go_wp2;go_ret;exact⟨by simp[btw,h1],rfl⟩
 ·go_enter (sf 129 f129),ntmps129;go_wp2;go_ret;exact⟨by simp[btw];omega,rfl⟩
theorem qel(c:UInt8)(w:World):Calls qp 130 #[.int .u8 c.toNat] w fun e w'=>e=.returned (.bool (btw c.toNat 48 57))/\w=w':=by
 by_cases h1:(48:Int)<=(c.toNat:Int)
 ·go_enter (sf 130 f130),ntmps130;go_wp2;go_ret;exact⟨by simp[btw,h1],rfl⟩
 ·go_enter (sf 130 f130),ntmps130;go_wp2;go_ret;exact⟨by simp[btw];omega,rfl⟩
def qft(s:ByteArray)(j:Nat):Bool:=btw ((s.data.toList.getD j 0).toNat:Int) 97 122||(j != 0&&btw ((s.data.toList.getD j 0).toNat:Int) 48 57)
theorem qbV(s:ByteArray){k:Nat}(hk:k<s.size):Ja k (s.data.toList.getD k 0) = !qft s k:=by
 unfold qft;obtain⟨x,hx⟩:∃x,s.data.toList.getD k 0=x:=⟨_,rfl⟩;rw[hx];unfold Ja btw;by_cases h0:k=0
 ·subst h0;simp
 ·have:(k != 0)=true:=by simpa using h0
  rw[this];have:0<k:=by omega
  simp[this]
theorem YC(f:Nat->UInt8->Bool):∀(i:Nat) (l:List UInt8),Xo f i l=true↔∃j,j<l.length/\f (i+j) (l.getD j 0)=true
 | i,[]=>by simp[Xo]
 | i,x::l=>by
   unfold Xo;rw[Bool.or_eq_true,YC f (i+1) l];constructor
   ·rintro(h|⟨j,hj,h⟩)
    ·exact⟨0,by simp,by simpa using h⟩
    ·exact⟨j+1,by simpa using hj,by rw[show i+(j+1)=i+1+j by omega];simpa using h⟩
   ·rintro⟨j,hj,h⟩
    cases j with
    | zero=>exact .inl (by simpa using h)
    | succ j=>exact .inr ⟨j,by simpa using hj,by rw[show i+1+j=i+(j+1) by omega];simpa using h⟩
theorem name_bad{s:ByteArray}{k:Nat}(hk:k<s.size)(h:qft s k=false):Yk s=false:=by
 unfold Yk;have:Xo Ja 0 s.data.toList=true:=(YC _ _ _).2 ⟨k,by simpa using hk,by rw[Nat.zero_add,qbV s hk,h];rfl⟩;rw[this];simp
theorem qfs{s:ByteArray}(h:∀j,j<s.size->qft s j=true):Yk s=(1<=s.size&&s.size<=9:Bool):=by
 unfold Yk
 have:Xo Ja 0 s.data.toList=false:=by
  rw[Bool.eq_false_iff];intro h1;obtain⟨j,hj,h2⟩:=(YC _ _ _).1 h1;have hj':j<s.size:=by simpa using hj
  rw[Nat.zero_add,qbV s hj',h j hj']at h2;cases h2
 rw[this];simp
theorem qbu(s:ByteArray)(hs:s.size<=100)(w:World):Calls qp 105 #[.string s] w fun e w'=>e=.returned (.bool (Yk s))/\w=w':=by
 obtain⟨R,hR⟩:∃R,Yk s=R:=⟨_,rfl⟩;rw[hR];have HG:Hid ((∀j,j<s.size->qft s j=true)->R=(1<=s.size&&s.size<=9:Bool)):=qd fun h=>by rw[<-hR];exact qfs h
 have HB:Hid (∀k,k<s.size->qft s k=false->R=false):=qd fun k hk h=>by rw[<-hR];exact name_bad hk h
 clear hR;go_enter (sf 105 f105),ntmps105;go_wp2;go_loop [3] (fun i=>∃k:Nat,i=.int .i64 k/\k<=s.size/\Hid (∀j,j<k->qft s j=true)) (fun i=>s.size-(intOf i).toNat);case atStart=>exact⟨0,rfl,Nat.zero_le _,qd fun j hj=>absurd hj (Nat.not_lt_zero _)⟩
 case round =>
  obtain⟨k,rfl,hk,HK⟩:=hrel;by_cases hlt:k<s.size
  ·have hk':k<s.data.toList.length:=(by simpa using hlt);have hg:s.data.toList.getD k 0=s[k]:=(by rw[List.getD_eq_getElem?_getD,qM hk'];rfl);have hok:qft s k=(btw (s[k].toNat:Int) 97 122||(k != 0&&btw (s[k].toNat:Int) 48 57)):=(by unfold qft;rw[hg]);have hsm:=fun W=>qfR s[k] W;have hdi:=fun W=>qel s[k] W
   have hnext:qft s k=true->Hid (∀j,j<k+1->qft s j=true):=fun h=>qd fun j hj=>by
    rcases Nat.lt_succ_iff_lt_or_eq.1 hj with h1|rfl
    ·exact HK.out j h1
    ·exact h
   have hlti:(k:Int)<(s.size:Int):=by omega
   cases h1:btw (s[k].toNat:Int) 97 122 with
   | true =>
     have HN:=hnext (by rw[hok,h1];rfl);simp only[h1]at hsm;clear hok hnext hdi h1;go_wp2_with (go_at_call 129;refine(hsm _).mono ?_;rintro e w' ⟨rfl,rfl⟩);go_round;(case rel=>exact⟨k+1,by go_num,by omega,HN⟩);case measure=>simp[intOf];omega
   | false =>
     simp only[h1]at hsm;by_cases h0:k=0
     ·subst h0;have hb:=HB.out 0 hlt (by rw[hok,h1];rfl);subst hb;clear hok hnext hdi h1;go_wp2_with (go_at_call 129;refine(hsm _).mono ?_;rintro e w' ⟨rfl,rfl⟩);go_ret;exact⟨rfl,rfl⟩
     ·have hkb:((k:Int)==0)=false:=by rw[beq_eq_false_iff_ne];omega
      cases h2:btw (s[k].toNat:Int) 48 57 with
      | true =>
        have HN:=hnext (by rw[hok,h1,h2];simp[h0]);simp only[h2]at hdi;clear hok hnext h1 h2;go_wp2_with (first|(go_at_call 129;refine(hsm _).mono ?_;rintro e w' ⟨rfl,rfl⟩)|(go_at_call 130;refine(hdi _).mono ?_;rintro e w' ⟨rfl,rfl⟩));go_round;(case rel=>exact⟨k+1,by go_num,by omega,HN⟩);case measure=>simp[intOf];omega
      | false =>
        have hb:=HB.out k hlt (by rw[hok,h1,h2];simp);subst hb;simp only[h2]at hdi;clear hok hnext h1 h2;go_wp2_with (first|(go_at_call 129;refine(hsm _).mono ?_;rintro e w' ⟨rfl,rfl⟩)|(go_at_call 130;refine(hdi _).mono ?_;rintro e w' ⟨rfl,rfl⟩));go_ret;exact⟨rfl,rfl⟩
  ·obtain rfl:k=s.size:=(by omega);have hR:=HG.out HK.out;have hin:=Yy (s.size:Int) 1 9;have hb:btw (s.size:Int) 1 9=R:=(by rw[hR];unfold btw;by_cases h1:1<=s.size<;>by_cases h2:s.size<=9<;>simp[h1,h2]<;>omega);rw[hb]at hin;clear hR hb;go_wp2_with (go_at_call 21;refine(hin _).mono ?_;rintro e w' ⟨rfl,rfl⟩);go_ret;exact⟨rfl,rfl⟩
def qaa(s:ByteArray):List ByteArray->Nat->Int
 | [],_=>-1
 | x::l,i=>if(x.toList==s.toList)=true then i else qaa s l (i+1)
theorem qab{s:ByteArray}{l:List ByteArray}{k:Nat}{x:ByteArray}(h:l[k]? = some x):qaa s (l.drop k) k=if(x.toList==s.toList)=true then(k:Int)else qaa s (l.drop (k+1)) (k+1):=by
 obtain⟨hk,rfl⟩:=qB h;rw[List.drop_eq_getElem_cons hk];rfl
theorem qaT(l:List ByteArray)(s:ByteArray)(a:Option Addr)(c:Nat)(hl:l.length<=1000)(hc:l.length<=c)(w:World)(h:qi w 1 encS a l) :
 Calls qp 106 #[.slice a l.length c,.string s] w fun e w'=>e=.returned (.int .i64 (qaa s l 0))/\w=w':=by
 obtain⟨R,hR⟩:∃R,qaa s l 0=R:=⟨_,rfl⟩;rw[hR];have HR:Hid (qaa s (l.drop 0) 0=R):=qd (by rw[List.drop_zero];exact hR);have HC:=qd h;clear h hR;go_enter (sf 106 f106),ntmps106;go_wp2;go_loop [5] (fun i=>∃k:Nat,i=.int .i64 k/\k<=l.length/\Hid (qaa s (l.drop k) k=R)) (fun i=>l.length-(intOf i).toNat);case atStart=>exact⟨0,rfl,Nat.zero_le _,HR⟩
 case round =>
  obtain⟨k,rfl,hk,HK⟩:=hrel;by_cases hlt:k<l.length
  ·obtain⟨x,hx⟩:∃x,l[k]? = some x:=⟨l[k],by simp[hlt]⟩;obtain⟨b,o,rfl,hP⟩:=HC.out (by omega);have c0:=hP k x hx 0 _ rfl;simp only[Nat.mul_one,Nat.add_zero]at c0;have hkc:(k:Int)<=(c:Int):=(by omega);have hA:=HK.out;rw[qab hx]at hA;clear hP hx
   cases hq:(x.toList==s.toList)with
   | true =>
     rw[hq]at hA;simp only[if_true]at hA;subst hA;go_wp2;go_ret;exact⟨rfl,rfl⟩
   | false =>
     rw[hq]at hA;simp only[Bool.false_eq_true,if_false]at hA;have HA:=qd hA;clear hA;go_wp2;go_round;(case rel=>exact⟨k+1,by go_num,by omega,HA⟩);case measure=>simp[intOf];omega
  ·obtain rfl:k=l.length:=(by omega);have hA:=HK.out;rw[List.drop_eq_nil_of_le ql]at hA;have hA:(-1:Int)=R:=hA;subst hA;go_wp2;go_ret;exact⟨rfl,rfl⟩
def Jn(l:List Int)(n:Int):Bool:=l.any fun x=>x==n
theorem xV(a:Option Addr)(c:Nat)(L:List Int)(n:Int)(hl:L.length<=100)(hlc:L.length<=c)(w:World)(hc:qi w 1 encI a L):Calls qp 35 #[.slice a L.length c,.int .i64 n] w fun e w'=>e=.returned (.bool (Jn L n))/\w=w':=by
 have HC:=qd hc;clear hc;go_enter (sf 35 f35),ntmps35;go_wp2;go_loop [5] (fun i=>∃k:Nat,i=.int .i64 k/\k<=L.length/\Hid (∀(j:Nat) x,j<k->L[j]? = some x->(x==n)=false)) (fun i=>L.length-(intOf i).toNat);case atStart=>exact⟨0,rfl,Nat.zero_le _,qd fun j x hj=>absurd hj (Nat.not_lt_zero _)⟩
 case round =>
  obtain⟨k,rfl,hk,HK⟩:=hrel;by_cases hlt:k<L.length
  ·obtain⟨x,hx⟩:∃x,L[k]? = some x:=⟨L[k],by simp[hlt]⟩;obtain⟨b,o,rfl,hcs⟩:=HC.out (by omega);have c0:=hcs k x hx 0 _ rfl;simp only[Nat.mul_one,Nat.add_zero]at c0;have hkc:(k:Int)<=(c:Int):=(by omega);have hm:x∈L:=qI hx
   cases hq:(x==n)with
   | true =>
     have hh:Jn L n=true:=List.any_eq_true.2 ⟨x,hm,hq⟩;clear hx hm hcs;go_wp2;go_ret;exact⟨rfl,rfl⟩
   | false =>
     have HN:Hid (∀(j:Nat) y,j<k+1->L[j]? = some y->(y==n)=false):=qd fun j y hj hy=>by
      rcases Nat.lt_succ_iff_lt_or_eq.1 hj with h1|rfl
      ·exact HK.out j y h1 hy
      ·rw[hx]at hy;cases hy;exact hq
     clear hx hm hcs;go_wp2;go_round;(case rel=>exact⟨k+1,by go_num,by omega,HN⟩);case measure=>simp[intOf];omega
  ·obtain rfl:k=L.length:=by omega
   have hh:Jn L n=false:=by
    unfold Jn;rw[List.any_eq_false];intro x hx;obtain⟨j,hj,rfl⟩:=List.getElem_of_mem hx;rw[HK.out j L[j] hj (by simp[hj])];decide
   go_wp2;go_ret;exact⟨rfl,rfl⟩
theorem zs{α:Type}:(∀(l:List α) (i:Nat) (h:i<l.toArray.size),l.toArray[i]=l[i]'(by simpa using h))/\(∀(a:α) (l:List α) (i:Nat) (h:i+1<(a::l).length),(a::l)[i+1]=l[i]'(by simpa using h))/\(∀(a:α) (l:List α) (h:0<(a::l).length),(a::l)[0]=a) /\
 (∀(l:List α) (i:Nat) (a:α),l.toArray.setIfInBounds i a=(l.set i a).toArray)/\(∀(x y:α) (l:List α),(x::l).set 0 y=y::l)/\(∀(x y:α) (l:List α) (i:Nat),(x::l).set (i+1) y=x::l.set i y) :=
 ⟨fun _ _ _=>by simp,fun _ _ _ _=>rfl,fun _ _ _=>rfl,fun _ _ _=>by simp,fun _ _ _=>rfl,fun _ _ _ _=>rfl⟩
section
variable {P:Program} {ops:Array Oper} {md:Region.Mode} {Q:Exit->Act->World->Prop} {S:World->Prop}
theorem tk(i:Nat){oi:Oper}{v:Value}{fuel:Nat}{listed:Array Bool}{a:Act}{w:World}(h:wpAnyH P md ops Q S fuel (listed.setIfInBounds i true) (a.put oi.dst v) w)(hi:ops[i]? = some oi:=by rfl)
 (hs:Region.noSelect ops=true:=by kernel_rfl) (hf:Region.free md ops listed i=true:=by kernel_rfl) (hr:(Region.ready md ops listed).contains i=true:=by kernel_rfl)
 (hy:YieldsIf P ops S oi v a:=by exact Or.inl ⟨by kernel_rfl,by intro w hSw;(try dsimp only at hSw);go_simp;first|done|with_reducible rfl⟩) (hS:S w:=by assumption)
 (hQ:∀c a w,Q (.panic c) (a.put oi.dst v) w->Q (.panic c) a w:=by exact fun _ _ _ h=>h):wpAnyH P md ops Q S (fuel+1) listed a w :=
 wpAnyH_take hi hs hf hr hQ hy hS h
end
section
variable {P:Program} {ops:Array Oper} {md:Region.Mode} {Q:Exit->Act->World->Prop} {S:World->Prop}
theorem tkS(i:Nat){oi:Oper}{fuel:Nat}{listed:Array Bool}{a:Act}{w:World}(h:wpAnyH P md ops Q S fuel (listed.setIfInBounds i true) (a.put oi.dst undef) w)(hi:ops[i]? = some oi:=by rfl)
 (hs:Region.noSelect ops=true:=by kernel_rfl) (hf:Region.free md ops listed i=true:=by kernel_rfl) (hr:(Region.ready md ops listed).contains i=true:=by kernel_rfl)
 (hy:YieldsIf P ops S oi undef a:=by exact Or.inr ⟨by kernel_rfl,rfl⟩) (hS:S w:=by assumption) (hQ:∀c a w,Q (.panic c) (a.put oi.dst undef) w->Q (.panic c) a w:=by exact fun _ _ _ h=>h):wpAnyH P md ops Q S (fuel+1) listed a w :=
 wpAnyH_take hi hs hf hr hQ hy hS h
theorem tkR(i:Nat){o:Oper}{fuel:Nat}{listed:Array Bool}{a:Act}{w:World}(h:∀K':Act->World->Prop,Shut (∀a w,S w->(S w->wpAnyH P md ops Q S fuel (listed.setIfInBounds i true) a w)->K' a w)->if Region.wanted o (yielded ops a.tmps)=true then Oper.wp P o a w K' Q else K' (a.put o.dst undef) w)(ho:ops[i]? = some o:=by rfl)
 (hr:Region.ready md ops listed=[i]:=by kernel_rfl):wpAnyH P md ops Q S (fuel+1) listed a w :=
 wpAnyH_ready hr (by simp) (AllReadyH.cons ho h AllReadyH.nil)
end
@[reducible] def CL:List (Addr×Value)->World->Prop->Prop
  | [],_,p=>p
  | (a,v)::l,X,p=>X.cell? a=some v/\CL l X p
theorem CL.imp{X Y:World}{p q:Prop}(hc:∀a v,X.cell? a=some v->Y.cell? a=some v)(hp:p->q):∀{L:List (Addr×Value)},CL L X p->CL L Y q
 | [],h=>hp h
 | (a,v)::_,h=>⟨hc a v h.1,CL.imp hc hp h.2⟩
theorem CL.out{X:World}{p:Prop}:∀{L:List (Addr×Value)},CL L X p->p
 | [],h=>h
 | (_,_)::_,h=>CL.out h.2
abbrev RHL(L:List (Addr×Value))(W X:World):Prop:=CL L X (Below W.heap.size W X)
section
variable {L:List (Addr×Value)} {W X Y:World}
theorem RHL.call(h:RHL L W X)(hB:Below X.heap.size X Y):RHL L W Y:=CL.imp (fun _ _ h=>qb _ hB h) (fun hb=>bcl hb hB) h
theorem RHL.bel(h:RHL L W X):Below W.heap.size W X:=CL.out h
theorem RHL.drew(h:RHL L W X):RHL L W X.drew:=RHL.call h (Below.refl _ X).drew
end
abbrev RH2(W:World)(a0 a1:Addr)(v0 v1:Value)(X:World):Prop:=RHL [(a0,v0),(a1,v1)] W X
abbrev RH3(W:World)(a0 a1 a2:Addr)(v0 v1 v2:Value)(X:World):Prop:=RHL [(a0,v0),(a1,v1),(a2,v2)] W X
abbrev RH4(W:World)(a0 a1 a2 a3:Addr)(v0 v1 v2 v3:Value)(X:World):Prop:=RHL [(a0,v0),(a1,v1),(a2,v2),(a3,v3)] W X
abbrev RH5(W:World)(a0 a1 a2 a3 a4:Addr)(v0 v1 v2 v3 v4:Value)(X:World):Prop:=RHL [(a0,v0),(a1,v1),(a2,v2),(a3,v3),(a4,v4)] W X
abbrev RH6(W:World)(a0 a1 a2 a3 a4 a5:Addr)(v0 v1 v2 v3 v4 v5:Value)(X:World):Prop:=RHL [(a0,v0),(a1,v1),(a2,v2),(a3,v3),(a4,v4),(a5,v5)] W X
abbrev RH9(W:World)(a0 a1 a2 a3 a4 a5 a6 a7 a8:Addr)(v0 v1 v2 v3 v4 v5 v6 v7 v8:Value)(X:World):Prop:=RHL [(a0,v0),(a1,v1),(a2,v2),(a3,v3),(a4,v4),(a5,v5),(a6,v6),(a7,v7),(a8,v8)] W X
abbrev RH10(W:World)(a0 a1 a2 a3 a4 a5 a6 a7 a8 a9:Addr)(v0 v1 v2 v3 v4 v5 v6 v7 v8 v9:Value)(X:World):Prop:=RHL [(a0,v0),(a1,v1),(a2,v2),(a3,v3),(a4,v4),(a5,v5),(a6,v6),(a7,v7),(a8,v8),(a9,v9)] W X
abbrev RH11(W:World)(a0 a1 a2 a3 a4 a5 a6 a7 a8 a9 a10:Addr)(v0 v1 v2 v3 v4 v5 v6 v7 v8 v9 v10:Value)(X:World):Prop:=RHL [(a0,v0),(a1,v1),(a2,v2),(a3,v3),(a4,v4),(a5,v5),(a6,v6),(a7,v7),(a8,v8),(a9,v9),(a10,v10)] W X
abbrev RH16(W:World)(a0 a1 a2 a3 a4 a5 a6 a7 a8 a9 a10 a11 a12 a13 a14 a15:Addr)(v0 v1 v2 v3 v4 v5 v6 v7 v8 v9 v10 v11 v12 v13 v14 v15:Value)(X:World):Prop:=RHL [(a0,v0),(a1,v1),(a2,v2),(a3,v3),(a4,v4),(a5,v5),(a6,v6),(a7,v7),(a8,v8),(a9,v9),(a10,v10),(a11,v11),(a12,v12),(a13,v13),(a14,v14),(a15,v15)] W X
end Go.Proofs.Tryz
namespace Go.LoadR
open Go Go.Load Go.RowKit
theorem qby{P:Program}{fn:Func}{ts:Array Value}{p q r:Tmp}{ty:TypeId}{w:World}{a:Addr}{v u x:Value}(h:fn.results=#[.cell p ty,.tmp q,.tmp r])(hp:ts.getD p undef=.pointer (some a))(hq:ts.getD q undef=u)(hr:ts.getD r undef=x)(hl:(loadVar ty a).run P w=.ok v w):(results fn ts).run P w=.ok (.tuple #[v,u,x]) w:=by
 unfold results;rw[h];simp only[List.mapM_toArray,List.mapM_cons,List.mapM_nil,hp,hq,hr,asAddr,bind_assoc,pure_bind,map_eq_pure_bind,Sem.run_bind,hl,Result.andThen_ok,Sem.run_pure];rfl
def set2(w:World)(b:Nat)(v0 v1:Value):World:=(w.setCell ⟨b,0,none⟩ v0).setCell ⟨b,1,none⟩ v1
theorem load_2{P:Program}{ty:TypeId}{w:World}{b:Nat}{v0 v1:Value}(hA:∀w,(isAgg ty).run P w=.ok true w)(hS:∀w,(Go.sizeOf ty).run P w=.ok 2 w)(k0:w.cell? ⟨b,0,none⟩=some v0)(k1:w.cell? ⟨b,1,none⟩=some v1) :
 (loadVar ty ⟨b,0,none⟩).run P w=.ok (.agg #[v0,v1]) w:=by
 unfold loadVar;simp only[Sem.run_bind,hA,hS,Result.andThen_ok,if_true,loadCells,loadCellsFrom,run_load,Addr.add,k0,k1,Sem.run_pure,Option.isSome_none,Bool.false_eq_true,if_false,Nat.zero_add,Nat.add_zero,Nat.one_ne_zero,Nat.reduceAdd];rfl
theorem put2{w:World}{b:Nat}{u0 u1:Value}(v0 v1:Value)(c0:w.cell? ⟨b,0,none⟩=some u0)(c1:w.cell? ⟨b,1,none⟩=some u1) :
 (set2 w b v0 v1).cell? ⟨b,0,none⟩=some v0/\(set2 w b v0 v1).cell? ⟨b,1,none⟩=some v1:=by
 unfold set2;exact⟨(qG (by simp) (qA (qL c0))),(qA (qR (qL c1)))⟩
theorem Below.set2{B:Nat}{w w1:World}{b:Nat}{v0 v1:Value}(h:Below B w w1)(hb:B<=b):Below B w (LoadR.set2 w1 b v0 v1):=(h.setCell hb _).setCell hb _
theorem ret_ct2{P:Program}{fn:Func}{R:Ending->World->Prop}{ts:Array Value}{p q:Tmp}{ty:TypeId}{w1:World}{b:Nat}{u0 u1 v0 v1 a:Value}(h:fn.results=#[.cell p ty,.tmp q])(hA:∀w,(isAgg ty).run P w=.ok true w)(hS:∀w,(Go.sizeOf ty).run P w=.ok 2 w)
 (hp:ts.getD p undef=.pointer (some ⟨b,0,none⟩)) (hq:ts.getD q undef=a) (c0:w1.cell? ⟨b,0,none⟩=some u0) (c1:w1.cell? ⟨b,1,none⟩=some u1)
 (hR:R (.returned (.tuple #[.agg #[v0,v1],a])) (set2 w1 b v0 v1)) :
 bodyPost P fn R .ret ⟨ts,[]⟩ ((w1.setCell ⟨b,0,none⟩ v0).setCell ⟨b,1,none⟩ v1):=by
 obtain⟨e0,e1⟩:=put2 v0 v1 c0 c1;exact bodyPost_ret (Ql h hp hq (load_2 hA hS e0 e1)) rfl hR
def set5(w:World)(b:Nat)(v0 v1 v2 v3 v4:Value):World:=((((w.setCell ⟨b,0,none⟩ v0).setCell ⟨b,1,none⟩ v1).setCell ⟨b,2,none⟩ v2).setCell ⟨b,3,none⟩ v3).setCell ⟨b,4,none⟩ v4
theorem qfe{P:Program}{ty:TypeId}{w:World}{b:Nat}{v0 v1 v2 v3 v4:Value}(hA:∀w,(isAgg ty).run P w=.ok true w)(hS:∀w,(Go.sizeOf ty).run P w=.ok 5 w)(k0:w.cell? ⟨b,0,none⟩=some v0)(k1:w.cell? ⟨b,1,none⟩=some v1)(k2:w.cell? ⟨b,2,none⟩=some v2)(k3:w.cell? ⟨b,3,none⟩=some v3)(k4:w.cell? ⟨b,4,none⟩=some v4) :
 (loadVar ty ⟨b,0,none⟩).run P w=.ok (.agg #[v0,v1,v2,v3,v4]) w:=by
 unfold loadVar;simp only[Sem.run_bind,hA,hS,Result.andThen_ok,if_true,loadCells,loadCellsFrom,run_load,Addr.add,k0,k1,k2,k3,k4,Sem.run_pure,Option.isSome_none,Bool.false_eq_true,if_false,Nat.zero_add,Nat.add_zero,Nat.one_ne_zero,Nat.reduceAdd,show ¬(2:Nat)=0 by decide,show ¬(3:Nat)=0 by decide,show ¬(4:Nat)=0 by decide];rfl
theorem put5{w:World}{b:Nat}{u0 u1 u2 u3 u4:Value}(v0 v1 v2 v3 v4:Value)(c0:w.cell? ⟨b,0,none⟩=some u0)(c1:w.cell? ⟨b,1,none⟩=some u1)(c2:w.cell? ⟨b,2,none⟩=some u2)(c3:w.cell? ⟨b,3,none⟩=some u3)(c4:w.cell? ⟨b,4,none⟩=some u4) :
 (set5 w b v0 v1 v2 v3 v4).cell? ⟨b,0,none⟩=some v0/\(set5 w b v0 v1 v2 v3 v4).cell? ⟨b,1,none⟩=some v1/\(set5 w b v0 v1 v2 v3 v4).cell? ⟨b,2,none⟩=some v2/\(set5 w b v0 v1 v2 v3 v4).cell? ⟨b,3,none⟩=some v3/\(set5 w b v0 v1 v2 v3 v4).cell? ⟨b,4,none⟩=some v4:=by
 unfold set5;exact⟨(qG (by simp) (qG (by simp) (qG (by simp) (qG (by simp) (qA (qL c0)))))),(qG (by simp) (qG (by simp) (qG (by simp) (qA (qR (qL c1)))))),(qG (by simp) (qG (by simp) (qA (qR (qR (qL c2)))))),(qG (by simp) (qA (qR (qR (qR (qL c3)))))),(qA (qR (qR (qR (qR (qL c4))))))⟩
theorem Below.set5{B:Nat}{w w1:World}{b:Nat}{v0 v1 v2 v3 v4:Value}(h:Below B w w1)(hb:B<=b):Below B w (LoadR.set5 w1 b v0 v1 v2 v3 v4):=((((h.setCell hb _).setCell hb _).setCell hb _).setCell hb _).setCell hb _
theorem qfO{w:World}{b k:Nat}{v0 v1 v2 v3 v4:Value}(h:k≠b):(set5 w b v0 v1 v2 v3 v4).heap[k]? = w.heap[k]? := (Below.heap_setCell _ _ _ _ h).trans <| (Below.heap_setCell _ _ _ _ h).trans <| (Below.heap_setCell _ _ _ _ h).trans <| (Below.heap_setCell _ _ _ _ h).trans <| Below.heap_setCell _ _ _ _ h
theorem ret_c5{P:Program}{fn:Func}{R:Ending->World->Prop}{ts:Array Value}{p:Tmp}{ty:TypeId}{w1:World}{b:Nat}{u0 u1 u2 u3 u4 v0 v1 v2 v3 v4:Value}(h:fn.results=#[.cell p ty])(hA:∀w,(isAgg ty).run P w=.ok true w)(hS:∀w,(Go.sizeOf ty).run P w=.ok 5 w)
 (hp:ts.getD p undef=.pointer (some ⟨b,0,none⟩)) (c0:w1.cell? ⟨b,0,none⟩=some u0) (c1:w1.cell? ⟨b,1,none⟩=some u1) (c2:w1.cell? ⟨b,2,none⟩=some u2) (c3:w1.cell? ⟨b,3,none⟩=some u3) (c4:w1.cell? ⟨b,4,none⟩=some u4)
 (hR:R (.returned (.agg #[v0,v1,v2,v3,v4])) (set5 w1 b v0 v1 v2 v3 v4)) :
 bodyPost P fn R .ret ⟨ts,[]⟩ (((((w1.setCell ⟨b,0,none⟩ v0).setCell ⟨b,1,none⟩ v1).setCell ⟨b,2,none⟩ v2).setCell ⟨b,3,none⟩ v3).setCell ⟨b,4,none⟩ v4):=by
 obtain⟨e0,e1,e2,e3,e4⟩:=put5 v0 v1 v2 v3 v4 c0 c1 c2 c3 c4;exact bodyPost_ret (Zh h hp (qfe hA hS e0 e1 e2 e3 e4)) rfl hR
theorem ret_ct5{P:Program}{fn:Func}{R:Ending->World->Prop}{ts:Array Value}{p q:Tmp}{ty:TypeId}{w1:World}{b:Nat}{u0 u1 u2 u3 u4 v0 v1 v2 v3 v4 a:Value}(h:fn.results=#[.cell p ty,.tmp q])(hA:∀w,(isAgg ty).run P w=.ok true w)(hS:∀w,(Go.sizeOf ty).run P w=.ok 5 w)
 (hp:ts.getD p undef=.pointer (some ⟨b,0,none⟩)) (hq:ts.getD q undef=a) (c0:w1.cell? ⟨b,0,none⟩=some u0) (c1:w1.cell? ⟨b,1,none⟩=some u1) (c2:w1.cell? ⟨b,2,none⟩=some u2) (c3:w1.cell? ⟨b,3,none⟩=some u3) (c4:w1.cell? ⟨b,4,none⟩=some u4)
 (hR:R (.returned (.tuple #[.agg #[v0,v1,v2,v3,v4],a])) (set5 w1 b v0 v1 v2 v3 v4)) :
 bodyPost P fn R .ret ⟨ts,[]⟩ (((((w1.setCell ⟨b,0,none⟩ v0).setCell ⟨b,1,none⟩ v1).setCell ⟨b,2,none⟩ v2).setCell ⟨b,3,none⟩ v3).setCell ⟨b,4,none⟩ v4):=by
 obtain⟨e0,e1,e2,e3,e4⟩:=put5 v0 v1 v2 v3 v4 c0 c1 c2 c3 c4;exact bodyPost_ret (Ql h hp hq (qfe hA hS e0 e1 e2 e3 e4)) rfl hR
def set6(w:World)(b:Nat)(v0 v1 v2 v3 v4 v5:Value):World:=(((((w.setCell ⟨b,0,none⟩ v0).setCell ⟨b,1,none⟩ v1).setCell ⟨b,2,none⟩ v2).setCell ⟨b,3,none⟩ v3).setCell ⟨b,4,none⟩ v4).setCell ⟨b,5,none⟩ v5
theorem load_6{P:Program}{ty:TypeId}{w:World}{b:Nat}{v0 v1 v2 v3 v4 v5:Value}(hA:∀w,(isAgg ty).run P w=.ok true w)(hS:∀w,(Go.sizeOf ty).run P w=.ok 6 w)(k0:w.cell? ⟨b,0,none⟩=some v0)(k1:w.cell? ⟨b,1,none⟩=some v1)(k2:w.cell? ⟨b,2,none⟩=some v2)(k3:w.cell? ⟨b,3,none⟩=some v3)(k4:w.cell? ⟨b,4,none⟩=some v4)(k5:w.cell? ⟨b,5,none⟩=some v5) :
 (loadVar ty ⟨b,0,none⟩).run P w=.ok (.agg #[v0,v1,v2,v3,v4,v5]) w:=by
 unfold loadVar;simp only[Sem.run_bind,hA,hS,Result.andThen_ok,if_true,loadCells,loadCellsFrom,run_load,Addr.add,k0,k1,k2,k3,k4,k5,Sem.run_pure,Option.isSome_none,Bool.false_eq_true,if_false,Nat.zero_add,Nat.add_zero,Nat.one_ne_zero,Nat.reduceAdd,show ¬(2:Nat)=0 by decide,show ¬(3:Nat)=0 by decide,show ¬(4:Nat)=0 by decide,show ¬(5:Nat)=0 by decide];rfl
theorem put6{w:World}{b:Nat}{u0 u1 u2 u3 u4 u5:Value}(v0 v1 v2 v3 v4 v5:Value)(c0:w.cell? ⟨b,0,none⟩=some u0)(c1:w.cell? ⟨b,1,none⟩=some u1)(c2:w.cell? ⟨b,2,none⟩=some u2)(c3:w.cell? ⟨b,3,none⟩=some u3)(c4:w.cell? ⟨b,4,none⟩=some u4)(c5:w.cell? ⟨b,5,none⟩=some u5) :
 (set6 w b v0 v1 v2 v3 v4 v5).cell? ⟨b,0,none⟩=some v0/\(set6 w b v0 v1 v2 v3 v4 v5).cell? ⟨b,1,none⟩=some v1/\(set6 w b v0 v1 v2 v3 v4 v5).cell? ⟨b,2,none⟩=some v2/\(set6 w b v0 v1 v2 v3 v4 v5).cell? ⟨b,3,none⟩=some v3/\(set6 w b v0 v1 v2 v3 v4 v5).cell? ⟨b,4,none⟩=some v4/\(set6 w b v0 v1 v2 v3 v4 v5).cell? ⟨b,5,none⟩=some v5:=by
 unfold set6;exact⟨(qG (by simp) (qG (by simp) (qG (by simp) (qG (by simp) (qG (by simp) (qA (qL c0))))))),(qG (by simp) (qG (by simp) (qG (by simp) (qG (by simp) (qA (qR (qL c1))))))),(qG (by simp) (qG (by simp) (qG (by simp) (qA (qR (qR (qL c2))))))),(qG (by simp) (qG (by simp) (qA (qR (qR (qR (qL c3))))))),(qG (by simp) (qA (qR (qR (qR (qR (qL c4))))))),(qA (qR (qR (qR (qR (qR (qL c5)))))))⟩
theorem Below.set6{B:Nat}{w w1:World}{b:Nat}{v0 v1 v2 v3 v4 v5:Value}(h:Below B w w1)(hb:B<=b):Below B w (LoadR.set6 w1 b v0 v1 v2 v3 v4 v5):=(((((h.setCell hb _).setCell hb _).setCell hb _).setCell hb _).setCell hb _).setCell hb _
theorem qfP{w:World}{b k:Nat}{v0 v1 v2 v3 v4 v5:Value}(h:k≠b):(set6 w b v0 v1 v2 v3 v4 v5).heap[k]? = w.heap[k]? := (Below.heap_setCell _ _ _ _ h).trans <| (Below.heap_setCell _ _ _ _ h).trans <| (Below.heap_setCell _ _ _ _ h).trans <| (Below.heap_setCell _ _ _ _ h).trans <| (Below.heap_setCell _ _ _ _ h).trans <| Below.heap_setCell _ _ _ _ h
theorem qfG{P:Program}{fn:Func}{R:Ending->World->Prop}{ts:Array Value}{p q:Tmp}{ty:TypeId}{w1:World}{b:Nat}{u0 u1 u2 u3 u4 u5 v0 v1 v2 v3 v4 v5 a:Value}(h:fn.results=#[.cell p ty,.tmp q])(hA:∀w,(isAgg ty).run P w=.ok true w)(hS:∀w,(Go.sizeOf ty).run P w=.ok 6 w)
 (hp:ts.getD p undef=.pointer (some ⟨b,0,none⟩)) (hq:ts.getD q undef=a) (c0:w1.cell? ⟨b,0,none⟩=some u0) (c1:w1.cell? ⟨b,1,none⟩=some u1) (c2:w1.cell? ⟨b,2,none⟩=some u2) (c3:w1.cell? ⟨b,3,none⟩=some u3) (c4:w1.cell? ⟨b,4,none⟩=some u4) (c5:w1.cell? ⟨b,5,none⟩=some u5)
 (hR:R (.returned (.tuple #[.agg #[v0,v1,v2,v3,v4,v5],a])) (set6 w1 b v0 v1 v2 v3 v4 v5)) :
 bodyPost P fn R .ret ⟨ts,[]⟩ ((((((w1.setCell ⟨b,0,none⟩ v0).setCell ⟨b,1,none⟩ v1).setCell ⟨b,2,none⟩ v2).setCell ⟨b,3,none⟩ v3).setCell ⟨b,4,none⟩ v4).setCell ⟨b,5,none⟩ v5):=by
 obtain⟨e0,e1,e2,e3,e4,e5⟩:=put6 v0 v1 v2 v3 v4 v5 c0 c1 c2 c3 c4 c5;exact bodyPost_ret (Ql h hp hq (load_6 hA hS e0 e1 e2 e3 e4 e5)) rfl hR
theorem Yv{P:Program}{fn:Func}{R:Ending->World->Prop}{ts:Array Value}{p q r:Tmp}{ty:TypeId}{w1:World}{b:Nat}{u0 u1 u2 u3 u4 u5 v0 v1 v2 v3 v4 v5 a a2:Value}(h:fn.results=#[.cell p ty,.tmp q,.tmp r])(hA:∀w,(isAgg ty).run P w=.ok true w)(hS:∀w,(Go.sizeOf ty).run P w=.ok 6 w)
 (hp:ts.getD p undef=.pointer (some ⟨b,0,none⟩)) (hq:ts.getD q undef=a) (hr:ts.getD r undef=a2) (c0:w1.cell? ⟨b,0,none⟩=some u0) (c1:w1.cell? ⟨b,1,none⟩=some u1) (c2:w1.cell? ⟨b,2,none⟩=some u2) (c3:w1.cell? ⟨b,3,none⟩=some u3) (c4:w1.cell? ⟨b,4,none⟩=some u4) (c5:w1.cell? ⟨b,5,none⟩=some u5)
 (hR:R (.returned (.tuple #[.agg #[v0,v1,v2,v3,v4,v5],a,a2])) (set6 w1 b v0 v1 v2 v3 v4 v5)) :
 bodyPost P fn R .ret ⟨ts,[]⟩ ((((((w1.setCell ⟨b,0,none⟩ v0).setCell ⟨b,1,none⟩ v1).setCell ⟨b,2,none⟩ v2).setCell ⟨b,3,none⟩ v3).setCell ⟨b,4,none⟩ v4).setCell ⟨b,5,none⟩ v5):=by
 obtain⟨e0,e1,e2,e3,e4,e5⟩:=put6 v0 v1 v2 v3 v4 v5 c0 c1 c2 c3 c4 c5;exact bodyPost_ret (qby h hp hq hr (load_6 hA hS e0 e1 e2 e3 e4 e5)) rfl hR
def set9(w:World)(b:Nat)(v0 v1 v2 v3 v4 v5 v6 v7 v8:Value):World:=((((((((w.setCell ⟨b,0,none⟩ v0).setCell ⟨b,1,none⟩ v1).setCell ⟨b,2,none⟩ v2).setCell ⟨b,3,none⟩ v3).setCell ⟨b,4,none⟩ v4).setCell ⟨b,5,none⟩ v5).setCell ⟨b,6,none⟩ v6).setCell ⟨b,7,none⟩ v7).setCell ⟨b,8,none⟩ v8
theorem load_9{P:Program}{ty:TypeId}{w:World}{b:Nat}{v0 v1 v2 v3 v4 v5 v6 v7 v8:Value}(hA:∀w,(isAgg ty).run P w=.ok true w)(hS:∀w,(Go.sizeOf ty).run P w=.ok 9 w)(k0:w.cell? ⟨b,0,none⟩=some v0)(k1:w.cell? ⟨b,1,none⟩=some v1)(k2:w.cell? ⟨b,2,none⟩=some v2)(k3:w.cell? ⟨b,3,none⟩=some v3)(k4:w.cell? ⟨b,4,none⟩=some v4)(k5:w.cell? ⟨b,5,none⟩=some v5)(k6:w.cell? ⟨b,6,none⟩=some v6)(k7:w.cell? ⟨b,7,none⟩=some v7)(k8:w.cell? ⟨b,8,none⟩=some v8) :
 (loadVar ty ⟨b,0,none⟩).run P w=.ok (.agg #[v0,v1,v2,v3,v4,v5,v6,v7,v8]) w:=by
 unfold loadVar;simp only[Sem.run_bind,hA,hS,Result.andThen_ok,if_true,loadCells,loadCellsFrom,run_load,Addr.add,k0,k1,k2,k3,k4,k5,k6,k7,k8,Sem.run_pure,Option.isSome_none,Bool.false_eq_true,if_false,Nat.zero_add,Nat.add_zero,Nat.one_ne_zero,Nat.reduceAdd,show ¬(2:Nat)=0 by decide,show ¬(3:Nat)=0 by decide,show ¬(4:Nat)=0 by decide,show ¬(5:Nat)=0 by decide,show ¬(6:Nat)=0 by decide,show ¬(7:Nat)=0 by decide,show ¬(8:Nat)=0 by decide];rfl
theorem Below.set9{B:Nat}{w w1:World}{b:Nat}{v0 v1 v2 v3 v4 v5 v6 v7 v8:Value}(h:Below B w w1)(hb:B<=b):Below B w (LoadR.set9 w1 b v0 v1 v2 v3 v4 v5 v6 v7 v8):=((((((((h.setCell hb _).setCell hb _).setCell hb _).setCell hb _).setCell hb _).setCell hb _).setCell hb _).setCell hb _).setCell hb _
end Go.LoadR
