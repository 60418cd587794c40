/-
  Lemmas about the program and the machine (FanLib to FanWords2), upon which the last text of this claim rests; no condition.
-/
import Derived.Conc.WgLib
import Derived.Conc.CrowdRun
import Derived.Conc.CrowdSpec
import Derived.Conc.MarkLaws
import Derived.Conc.CrowdComm
import Derived.Conc.CrowdStepW
import Derived.Conc.WgWords
import Derived.Below
import Derived.Conc.FxGenW
import Derived.Orders
import Derived.Laws.Rows
import Derived.Conc.AppendEvents3
import Derived.Laws.Tables
import Derived.Laws.Build
import Derived.Conc.EventLaws
import Derived.Conc.BesideWords
import Derived.Conc.CompanyDraw
import Derived.Conc.TokenWalk
import Derived.Laws.MakeOwn
import Derived.Conc.SmallLaws
import Derived.Test.YtnpjncjnmpfgpaaGreatDoorG02
set_option linter.unusedSimpArgs false
set_option linter.unusedVariables false
section
namespace Go.Proofs
abbrev Tryz.link:Go.Conc.Lib.WgLink:={ add:=59,done:=61,wait:=64,relMerge:=98,disable:=99,enable:=100,inBubble:=101,associate:=102,fatal:=103,uOr:=104,uAdd:=105,raceRead:=106,uLoad:=107,uStore:=108,disassociate:=109,semrelease:=110,acquire:=111,isAssociated:=112,uCas:=113,raceWrite:=114,semacquire:=115,orU64:=126,addU64:=127,loadU64:=128,storeU64:=129,casU64:=130,tWgP:=128,tUP:=130,tAssoc:=131,tWg:=97,tAU:=94,tU64:=92,tUint:=135,tU32:=95,tPU32:=136,tPAU:=152,tPU64:=154,tNoCopy:=89,tANoCopy:=90,tAlign64:=91 }
theorem Tryz.wgLib:Go.Conc.Lib.WgLib Tryz.prog Tryz.link :=
 ⟨Tryz.func59,Tryz.func61,Tryz.func64,Tryz.func98,Tryz.func99,Tryz.func100,Tryz.func101,Tryz.func102,Tryz.func103,Tryz.func104,Tryz.func105,Tryz.func106,Tryz.func107,Tryz.func108,Tryz.func109,Tryz.func110,Tryz.func111,Tryz.func112,Tryz.func113,Tryz.func114,Tryz.func115,Tryz.func126,Tryz.func127,Tryz.func128,Tryz.func129,Tryz.func130,Tryz.underlying128,Tryz.runUnderlying128,Tryz.sizeOf128,Tryz.isAgg128,Tryz.zeroValue128,Tryz.underlying130,Tryz.runUnderlying130,Tryz.sizeOf130,Tryz.isAgg130,Tryz.zeroValue130,Tryz.underlying131,Tryz.runUnderlying131,Tryz.sizeOf131,Tryz.isAgg131,Tryz.zeroValue131,Tryz.underlying97,Tryz.runUnderlying97,Tryz.sizeOf97,Tryz.isAgg97,Tryz.zeroValue97,Tryz.underlying94,Tryz.runUnderlying94,Tryz.sizeOf94,Tryz.isAgg94,Tryz.zeroValue94,Tryz.underlying92,Tryz.runUnderlying92,Tryz.sizeOf92,Tryz.isAgg92,Tryz.zeroValue92,Tryz.underlying135,Tryz.runUnderlying135,Tryz.sizeOf135,Tryz.isAgg135,Tryz.zeroValue135,Tryz.underlying95,Tryz.runUnderlying95,Tryz.sizeOf95,Tryz.isAgg95,Tryz.zeroValue95,Tryz.underlying136,Tryz.runUnderlying136,Tryz.sizeOf136,Tryz.isAgg136,Tryz.zeroValue136,Tryz.underlying152,Tryz.runUnderlying152,Tryz.sizeOf152,Tryz.isAgg152,Tryz.zeroValue152,Tryz.underlying154,Tryz.runUnderlying154,Tryz.sizeOf154,Tryz.isAgg154,Tryz.zeroValue154,Tryz.underlying0,Tryz.runUnderlying0,Tryz.sizeOf0,Tryz.isAgg0,Tryz.zeroValue0,Tryz.underlying3,Tryz.runUnderlying3,Tryz.sizeOf3,Tryz.isAgg3,Tryz.zeroValue3,Tryz.underlying4,Tryz.runUnderlying4,Tryz.sizeOf4,Tryz.isAgg4,Tryz.zeroValue4,Tryz.underlying9,Tryz.runUnderlying9,Tryz.sizeOf9,Tryz.isAgg9,Tryz.zeroValue9,Tryz.underlying20,Tryz.runUnderlying20,Tryz.sizeOf20,Tryz.isAgg20,Tryz.zeroValue20,Tryz.underlying21,Tryz.runUnderlying21,Tryz.sizeOf21,Tryz.isAgg21,Tryz.zeroValue21,by kernel_rfl,by kernel_rfl⟩
end Go.Proofs
end
section
namespace Go.Fan
open Go Go.Conc Go.ConcN
open Go.ConcR (stA)
def blk:Loc→Option Nat
 | .cell a=>some a.block
 | .obj r=>some r
 | _=>none
structure Ge where
 B0:Nat
 Wg:Nat
 Ch:Nat
 ty:TypeId
 S:Nat→Prop
def Ge.ro (Γ:Ge) (b:Nat):Prop:=b < Γ.B0∧b≠Γ.Wg∧b≠Γ.Ch∧¬ Γ.S b
def Ge.S' (Γ:Ge) (b:Nat):Prop:=Γ.S b∨b=Γ.Wg∨b=Γ.Ch
def Ge.ShunL (Γ:Ge):Loc→Prop:=fun l=>∃b,blk l=some b∧Γ.S' b
structure Dis (Γ:Ge) (own:Nat→Nat→Prop) (B:Nat):Prop where
 one:∀k k' b,own k b→own k' b→k=k'
 high:∀k b,own k b→Γ.B0≤b
 low:∀k b,own k b→b < B
 wg:Γ.Wg < Γ.B0
 ch:Γ.Ch < Γ.B0
 base:Γ.B0≤B
theorem Dis.nro {Γ:Ge} {own:Nat→Nat→Prop} {B:Nat} (h:Dis Γ own B) {k b:Nat} (ho:own k b):¬ Γ.ro b:=fun hr=>by
 have:=h.high k b ho
 have:=hr.1
 omega
theorem Dis.nwg {Γ:Ge} {own:Nat→Nat→Prop} {B:Nat} (h:Dis Γ own B) {k b:Nat} (ho:own k b):b≠Γ.Wg:=fun hr=>by
 have:=h.high k b ho
 have:=h.wg
 omega
theorem Dis.nch {Γ:Ge} {own:Nat→Nat→Prop} {B:Nat} (h:Dis Γ own B) {k b:Nat} (ho:own k b):b≠Γ.Ch:=fun hr=>by
 have:=h.high k b ho
 have:=h.ch
 omega
inductive Tch (Γ:Ge) (own:Nat→Nat→Prop) (sg B k:Nat) (x:Touch):Prop
 | atom:blk x.loc=some Γ.Wg→x.kind=.atomic→Tch Γ own sg B k x
 | chan:blk x.loc=some Γ.Ch→x.kind=.atomic→Tch Γ own sg B k x
 | said:blk x.loc=some Γ.Wg→x.kind=.said→k=sg→Tch Γ own sg B k x
 | read {b:Nat}:blk x.loc=some b→Γ.ro b→x.write=false→x.kind=.plain→Tch Γ own sg B k x
 | mine {b:Nat}:blk x.loc=some b→own k b→x.kind=.plain→Tch Γ own sg B k x
 | new {b:Nat}:blk x.loc=some b→B≤b→x.kind=.plain→Tch Γ own sg B k x
structure TR (Γ:Ge) (own:Nat→Nat→Prop) (act:Nat→Prop) (sg B N:Nat) (t:Trace):Prop where
 low:∀op∈t,op.act.low B
 own:∀k,act k→∀l b,blk l=some b→own k b→Perm t k l
 rd:∀k,act k→∀l b,blk l=some b→Γ.ro b→PermW t k l
 sync:∀i x,touchAt t i=some x→blk x.loc=some Γ.Wg→x.kind≠.plain
 said:∀i x,touchAt t i=some x→x.kind=.said→x.loc.isMemory=true→Knows t sg i
 nr:∀said,¬ Race said t
 gs:∀(i:Nat) (op:MemOp),t[i]? = some op→op.g < N
 whose:∀i x,touchAt t i=some x→x.loc.isMemory=true→Knows t 0 i∨(Γ.ShunL x.loc∧x.kind=.atomic)∨∃k,act k∧t.g? i=some k∧x.kind≠.atomic
 over:∀i g,t.g? i=some g→g≠0→t.counts i→(∃j,t.g? j=some 0∧HappensBefore t i j)∨act g
 chn:∀k,act k→∀i x,touchAt t i=some x→blk x.loc=some Γ.Ch→x.kind=.plain→Knows t k i
theorem blk_low {l:Loc} {b B:Nat} (h:blk l=some b) (hl:l.low B):b < B:=by
 cases l <;> simp only [blk,Option.some.injEq,reduceCtorEq] at h
 all_goals (subst h;exact hl)
theorem qas {a:MemAct} {x:Touch} {B b:Nat} (h:a.touch? = some x) (hl:a.low B) (hb:blk x.loc=some b):b < B:=by
 cases a with
 | access e =>
   simp only [MemAct.touch?,Option.some.injEq] at h
   subst h
   exact blk_low hb hl
 | mark m =>
   cases m <;> simp only [MemAct.touch?,Option.some.injEq,reduceCtorEq] at h
   all_goals (subst h;simp only [blk,Option.some.injEq] at hb;subst hb;exact hl)
 | _=>simp [MemAct.touch?] at h
theorem qeE {l:Loc} {b:Nat} (h:blk l=some b):l.isMemory=true:=by
 cases l <;> simp_all [blk,Loc.isMemory]
section
variable {Γ:Ge} {own own':Nat→Nat→Prop} {act act':Nat→Prop} {sg sg' B B' N:Nat} {t u:Trace}
theorem TR.touch_lt (h:TR Γ own act sg B N t) {i:Nat} {x:Touch} {b:Nat} (hx:touchAt t i=some x) (hb:blk x.loc=some b):b < B:=by
 obtain ⟨op,hop,ht⟩:=touch_of hx
 exact qas ht (h.low op (Array.mem_of_getElem? hop)) hb
theorem TR.low_mono (h:TR Γ own act sg B N t) (hB:B≤B'):TR Γ own act sg B' N t:={ h with low:=fun op hop=>MemAct.low_mono hB (h.low op hop) }
theorem QO {i:Nat} {a:Touch} (ha:touchAt (t ++ u) i=some a):(i < t.size∧touchAt t i=some a)∨∃op,t.size≤i∧op∈u∧(t ++ u)[i]? = some op∧op.act.touch? = some a:=by
 obtain ⟨z,hz,hza⟩:=touch_of ha
 rcases getElem?_append_cases hz with ⟨hi,hz'⟩ | ⟨hi,hzu⟩
 ·exact .inl ⟨hi,by rw [touchAt_of hz'];exact hza⟩
 ·exact .inr ⟨z,hi,hzu,hz,hza⟩
theorem g?_of {t:Trace} {i:Nat} {op:MemOp} (h:t[i]? = some op):t.g? i=some op.g:=by simp [Trace.g?,h]
theorem Jg {i g:Nat} (h:(∃j,t.g? j=some 0∧HappensBefore t i j)∨act g):(∃j,(t ++ u).g? j=some 0∧HappensBefore (t ++ u) i j)∨act g:=by
 rcases h with ⟨j,h1,h2⟩ | h
 ·have hj:j < t.size:=by
   unfold Trace.g? at h1
   obtain ⟨z,hz,_⟩:=Option.map_eq_some_iff.1 h1
   exact lt_size_of_getElem? hz
  exact .inl ⟨j,by rw [g?_old hj];exact h1,hb_app u h2⟩
 ·exact .inr h
theorem TR.app (D:Dis Γ own B) (h:TR Γ own act sg B N t) {k:Nat} (hk:act k) (hkN:k < N) (hB:B≤B') (ho:∀k' b,own' k' b→own k' b∨(k'=k∧B≤b))
 (hu:∀op∈u,op.g=k∧op.act.low B'∧∀x,op.act.touch? = some x→Tch Γ own sg B k x):TR Γ own' act sg B' N (t ++ u):=by
 have mineNew:∀{i:Nat} {op:MemOp},op∈u→(t ++ u)[i]? = some op→Knows (t ++ u) k i:=fun hop hi=>by
  have:=knows_own hi
  rwa [(hu _ hop).1] at this
 refine ⟨seen_app (fun op hop=>MemAct.low_mono hB (h.low op hop)) fun op hop=>(hu op hop).2.1,fun k' hk' l b hl hb i a ha e=>?_,fun k' hk' l b hl hb i a ha e hw=>?_,fun i x hx hb=>?_,fun i x hx hs hm=>?_,fun said=>?_,fun i op hi=>?_,fun i x hx hm=>?_,fun i g hg hne hc=>?_,fun k' hk' i x hx hb hp=>?_⟩
 ·rcases QO ha with ⟨_,h1⟩ | ⟨op,_,h1,h2,h3⟩
  ·rcases ho k' b hb with h4 | ⟨_,h4⟩
   ·exact (h.own k' hk' l b hl h4 i a h1 e).app u
   ·exact absurd (h.touch_lt h1 (e▸hl)) (by omega)
  ·by_cases hkk:k'=k
   ·subst hkk;exact mineNew h1 h2
   ·have hb0:own k' b:=(ho k' b hb).resolve_right fun x=>hkk x.1
    have hlow:=D.low _ _ hb0
    cases (hu op h1).2.2 a h3 with
    | atom h4 _=>rw [e,hl] at h4;exact absurd (Option.some.inj h4) (D.nwg hb0)
    | chan h4 _=>rw [e,hl] at h4;exact absurd (Option.some.inj h4) (D.nch hb0)
    | said h4 _ _=>rw [e,hl] at h4;exact absurd (Option.some.inj h4) (D.nwg hb0)
    | read h4 h5 _ _=>rw [e,hl] at h4;cases h4;exact absurd h5 (D.nro hb0)
    | mine h4 h5 _=>rw [e,hl] at h4;cases h4;exact absurd (D.one _ _ _ hb0 h5) hkk
    | new h4 h5 _=>rw [e,hl] at h4;cases h4;omega
 ·rcases QO ha with ⟨_,h1⟩ | ⟨op,_,h1,h2,h3⟩
  ·exact (h.rd k' hk' l b hl hb i a h1 e hw).app u
  ·have hwg:=D.base
   cases (hu op h1).2.2 a h3 with
   | atom h4 _=>rw [e,hl] at h4;exact absurd (Option.some.inj h4) hb.2.1
   | chan h4 _=>rw [e,hl] at h4;exact absurd (Option.some.inj h4) hb.2.2.1
   | said h4 _ _=>rw [e,hl] at h4;exact absurd (Option.some.inj h4) hb.2.1
   | read h4 h5 h6 _=>rw [h6] at hw;cases hw
   | mine h4 h5 _=>rw [e,hl] at h4;cases h4;exact absurd hb (D.nro h5)
   | new h4 h5 _=>rw [e,hl] at h4;cases h4;have:=hb.1;omega
 ·rcases QO hx with ⟨_,h1⟩ | ⟨op,_,h1,_,h3⟩
  ·exact h.sync i x h1 hb
  ·cases (hu op h1).2.2 x h3 with
   | atom _ h5=>rw [h5];simp
   | chan _ h5=>rw [h5];simp
   | said _ h5 _=>rw [h5];simp
   | read h4 h5 _ _=>rw [hb] at h4;cases h4;exact absurd rfl h5.2.1
   | mine h4 h5 _=>rw [hb] at h4;cases h4;exact absurd rfl (D.nwg h5)
   | new h4 h5 _=>rw [hb] at h4;cases h4;have:=D.wg;have:=D.base;omega
 ·rcases QO hx with ⟨_,h1⟩ | ⟨op,_,h1,h2,h3⟩
  ·exact (h.said i x h1 hs hm).app u
  ·cases (hu op h1).2.2 x h3 with
   | said _ _ h6=>subst h6;exact mineNew h1 h2
   | atom _ h5=>rw [hs] at h5;cases h5
   | chan _ h5=>rw [hs] at h5;cases h5
   | read _ _ _ h5=>rw [hs] at h5;cases h5
   | mine _ _ h5=>rw [hs] at h5;cases h5
   | new _ _ h5=>rw [hs] at h5;cases h5
 ·refine noRace_append (h.nr said) (fun op hop=>(hu op hop).1) (fun i a ha op hop b hb hc=>?_)
  have hloc:=hc.1
  have hnp:∀c,blk b.loc=some c→c=Γ.Wg→a.kind≠.plain:=fun c h4 h5=>h.sync i a ha (by rw [hloc,h4,h5])
  cases (hu op hop).2.2 b hb with
  | atom h4 h5 =>
    rcases hc.2.2.2 with h6 | h6 | ⟨_,_,h6⟩
    ·exact absurd h6 (hnp _ h4 rfl)
    ·rw [h5] at h6;cases h6
    ·rw [h5] at h6;cases h6
  | chan h4 h5 =>
    rcases hc.2.2.2 with h6 | h6 | ⟨_,_,h6⟩
    ·exact h.chn k hk i a ha (by rw [hloc,h4]) h6
    ·rw [h5] at h6;cases h6
    ·rw [h5] at h6;cases h6
  | said h4 h5 h7 =>
    rcases hc.2.2.2 with h6 | h6 | ⟨_,h6,_⟩
    ·exact absurd h6 (hnp _ h4 rfl)
    ·rw [h5] at h6;cases h6
    ·subst h7;exact h.said i a ha h6 hc.2.1
  | read h4 h5 h6 _=>exact h.rd k hk b.loc _ h4 h5 i a ha hloc (hc.2.2.1.resolve_right (by simp [h6]))
  | mine h4 h5 _=>exact h.own k hk b.loc _ h4 h5 i a ha hloc
  | new h4 h5 _=>exact absurd (h.touch_lt ha (by rw [hloc,h4])) (by omega)
 ·rcases getElem?_append_cases hi with ⟨_,hi'⟩ | ⟨_,hiu⟩
  ·exact h.gs i op hi'
  ·rw [(hu op hiu).1];exact hkN
 ·rcases QO hx with ⟨h0,h1⟩ | ⟨op,_,h1,h2,h3⟩
  ·rcases h.whose i x h1 hm with h4 | h4 | ⟨k',h4,h5,h6⟩
   ·exact .inl (h4.app u)
   ·exact .inr (.inl h4)
   ·exact .inr (.inr ⟨k',h4,by rw [g?_old h0];exact h5,h6⟩)
  ·have hg:(t ++ u).g? i=some k:=by rw [g?_of h2,(hu op h1).1]
   cases (hu op h1).2.2 x h3 with
   | atom h4 h5=>exact .inr (.inl ⟨⟨_,h4,.inr (.inl rfl)⟩,h5⟩)
   | chan h4 h5=>exact .inr (.inl ⟨⟨_,h4,.inr (.inr rfl)⟩,h5⟩)
   | said _ h5 _=>exact .inr (.inr ⟨k,hk,hg,by rw [h5];simp⟩)
   | read _ _ _ h5=>exact .inr (.inr ⟨k,hk,hg,by rw [h5];simp⟩)
   | mine _ _ h5=>exact .inr (.inr ⟨k,hk,hg,by rw [h5];simp⟩)
   | new _ _ h5=>exact .inr (.inr ⟨k,hk,hg,by rw [h5];simp⟩)
 ·obtain ⟨op,hop,hog⟩:=Option.map_eq_some_iff.1 hg
  rcases getElem?_append_cases hop with ⟨hi,_⟩ | ⟨_,hiu⟩
  ·exact Jg (h.over i g (by rw [← g?_old (u:=u) hi];exact hg) hne ((counts_old hi).1 hc))
  ·rw [(hu op hiu).1] at hog;subst hog;exact .inr hk
 ·rcases QO hx with ⟨_,h1⟩ | ⟨op,_,h1,h2,h3⟩
  ·exact (h.chn k' hk' i x h1 hb hp).app u
  ·cases (hu op h1).2.2 x h3 with
   | atom _ h5=>rw [hp] at h5;cases h5
   | chan _ h5=>rw [hp] at h5;cases h5
   | said _ h5 _=>rw [hp] at h5;cases h5
   | read h4 h5 _ _=>rw [hb] at h4;cases h4;exact absurd rfl h5.2.2.1
   | mine h4 h5 _=>rw [hb] at h4;cases h4;exact absurd rfl (D.nch h5)
   | new h4 h5 _=>rw [hb] at h4;cases h4;have:=D.ch;have:=D.base;omega
theorem TR.mute (h:TR Γ own act sg B N t) {k:Nat} (hk:k < N) (hB:B≤B') (ho:∀k' b,own' k' b→own k' b∨B≤b) (hu:∀op∈u,op.g=k∧op.act.low B'∧op.act.touch? = none):TR Γ own' act sg B' N (t ++ u):=by
 have old:∀{i:Nat} {a:Touch},touchAt (t ++ u) i=some a→i < t.size∧touchAt t i=some a:=fun ha=>by
  rcases QO ha with h1 | ⟨op,_,h1,_,h3⟩
  ·exact h1
  ·rw [(hu op h1).2.2] at h3;cases h3
 refine ⟨seen_app (fun op hop=>MemAct.low_mono hB (h.low op hop)) fun op hop=>(hu op hop).2.1,fun k' hk' l b hl hb i a ha e=>?_,fun k' hk' l b hl hb i a ha e hw=>(h.rd k' hk' l b hl hb i a (old ha).2 e hw).app u,fun i x hx hb=>h.sync i x (old hx).2 hb,fun i x hx hs hm=>(h.said i x (old hx).2 hs hm).app u,fun said=>?_,fun i op hi=>?_,fun i x hx hm=>?_,fun i g hg hne hc=>?_,fun k' hk' i x hx hb hp=>(h.chn k' hk' i x (old hx).2 hb hp).app u⟩
 ·rcases ho k' b hb with h4 | h4
  ·exact (h.own k' hk' l b hl h4 i a (old ha).2 e).app u
  ·exact absurd (h.touch_lt (old ha).2 (e▸hl)) (by omega)
 ·exact noRace_append (h.nr said) (g:=k) (fun op hop=>(hu op hop).1) fun i a _ op hop b hb _=>by rw [(hu op hop).2.2] at hb;cases hb
 ·rcases getElem?_append_cases hi with ⟨_,hi'⟩ | ⟨_,hiu⟩
  ·exact h.gs i op hi'
  ·rw [(hu op hiu).1];exact hk
 ·obtain ⟨h0,h1⟩:=old hx
  rcases h.whose i x h1 hm with h4 | h4 | ⟨k',h4,h5,h6⟩
  ·exact .inl (h4.app u)
  ·exact .inr (.inl h4)
  ·exact .inr (.inr ⟨k',h4,by rw [g?_old h0];exact h5,h6⟩)
 ·have hi:i < t.size:=by
   obtain ⟨x,hx,_⟩:=hc
   exact (old hx).1
  exact Jg (h.over i g (by rw [← g?_old (u:=u) hi];exact hg) hne ((counts_old hi).1 hc))
theorem TR.fork (h:TR Γ own act sg B N t) (h0a:act 0) (hN:0 < N) (hact:∀k,act' k↔act k∨k=N)
 (ho:∀k b,own' k b→own k b∨(k=N∧own 0 b)) (hsg:sg'=sg∨(sg=0∧sg'=N)) (ho2:∀b,own N b→False)
 {x y:MemOp} (hx:x.g=0∧x.act=.go N) (hy:y.g=N∧y.act=.start) (h0:Deaf t 0=0):TR Γ own' act' sg' B (N+1) (t ++ #[x,y]):=by
 have hk:Deaf t N=0:=Deaf_absent fun i op hi e=>by have:=h.gs i op hi;omega
 have hnt:∀op∈#[x,y],∀b,op.act.touch? = some b→False:=by
  intro op hop b hb
  simp only [List.mem_toArray,List.mem_cons,List.not_mem_nil,or_false] at hop
  rcases hop with rfl | rfl
  ·rw [hx.2] at hb;cases hb
  ·rw [hy.2] at hb;cases hb
 have old:∀{i:Nat} {a:Touch},touchAt (t ++ #[x,y]) i=some a→i < t.size∧touchAt t i=some a:=fun ha=>by
  rcases QO ha with h1 | ⟨op,_,h1,_,h3⟩
  ·exact h1
  ·exact (hnt _ h1 _ h3).elim
 have kn:∀{i:Nat},Knows t 0 i→Knows (t ++ #[x,y]) N i:=fun hki=>fork_knows hx hy h0 hk hki
 refine ⟨seen_app h.low fun op hop=>?_,fun k' hk' l b hl hb i a ha e=>?_,fun k' hk' l b hl hb i a ha e hw=>?_,fun i x hx hb=>h.sync i x (old hx).2 hb,fun i z hz hs hm=>?_,fun said=>?_,fun i op hi=>?_,fun i z hz hm=>?_,fun i g hg hne hc=>?_,fun k' hk' i z hz hb hp=>?_⟩
 ·simp only [List.mem_toArray,List.mem_cons,List.not_mem_nil,or_false] at hop
  rcases hop with rfl | rfl
  ·rw [hx.2];trivial
  ·rw [hy.2];trivial
 ·rcases ho k' b hb with h4 | ⟨rfl,h4⟩
  ·rcases (hact k').1 hk' with h5 | rfl
   ·exact (h.own k' h5 l b hl h4 i a (old ha).2 e).app _
   ·exact (ho2 b h4).elim
  ·exact kn (h.own 0 h0a l b hl h4 i a (old ha).2 e)
 ·rcases (hact k').1 hk' with h5 | rfl
  ·exact (h.rd k' h5 l b hl hb i a (old ha).2 e hw).app _
  ·exact kn (h.rd 0 h0a l b hl hb i a (old ha).2 e hw)
 ·rcases hsg with rfl | ⟨rfl,rfl⟩
  ·exact (h.said i z (old hz).2 hs hm).app _
  ·exact kn (h.said i z (old hz).2 hs hm)
 ·have e:t ++ #[x,y]=(t ++ #[x]) ++ #[y]:=by apply Array.ext';simp
  rw [e]
  exact noRace_append (g:=N) (noRace_append (g:=0) (h.nr said) (fun op hop=>by simp at hop;rw [hop];exact hx.1) (fun i a _ op hop b hb _=>(hnt op (by simp at hop ⊢;exact .inl hop) b hb).elim))
   (fun op hop=>by simp at hop;rw [hop];exact hy.1) (fun i a _ op hop b hb _=>(hnt op (by simp at hop ⊢;exact .inr hop) b hb).elim)
 ·rcases getElem?_append_cases hi with ⟨_,hi'⟩ | ⟨_,hiu⟩
  ·exact Nat.lt_succ_of_lt (h.gs i op hi')
  ·simp only [List.mem_toArray,List.mem_cons,List.not_mem_nil,or_false] at hiu
   rcases hiu with rfl | rfl
   ·rw [hx.1];omega
   ·rw [hy.1];omega
 ·obtain ⟨h1,h2⟩:=old hz
  rcases h.whose i z h2 hm with h4 | h4 | ⟨k',h4,h5,h6⟩
  ·exact .inl (h4.app _)
  ·exact .inr (.inl h4)
  ·exact .inr (.inr ⟨k',(hact k').2 (.inl h4),by rw [g?_old h1];exact h5,h6⟩)
 ·have hi:i < t.size:=by
   obtain ⟨z,hz,_⟩:=hc
   exact (old hz).1
  rcases Jg (u:=#[x,y]) (h.over i g (by rw [← g?_old (u:=#[x,y]) hi];exact hg) hne ((counts_old hi).1 hc)) with h4 | h4
  ·exact .inl h4
  ·exact .inr ((hact g).2 (.inl h4))
 ·rcases (hact k').1 hk' with h5 | rfl
  ·exact (h.chn k' h5 i z (old hz).2 hb hp).app _
  ·exact kn (h.chn 0 h0a i z (old hz).2 hb hp)
theorem qei {t:Trace} {i j g:Nat} (hij:i < j) (hi:t.g? i=some g) (hj:t.g? j=some g):HappensBefore t i j:=.single (.inl ⟨hij,g,hi,hj⟩)
theorem TR.done (h:TR Γ own act sg B N t) (hno:NoRelease (stA Γ.Wg) t) (h0:Deaf t 0=0) {c q p:Nat}
 (hq:t.act? q=some (.mark (.acquire (stA Γ.Wg)))) (hqg:t.g? q=some c) (hqh:t.heard q) (hp:t.act? p=some (.close Γ.Ch)) (hpg:t.g? p=some c) (hph:t.heard p) (hqp:q < p)
 (haft:∀i,p < i→t.g? i=some c→¬ t.counts i) (hact:∀k,act k→k=0∨k=c∨∃r,RelBy (stA Γ.Wg) t k r∧r < q) (hCh:Γ.Ch < B)
 {y:MemOp} (hy:y.g=0∧y.act=.recvClosed Γ.Ch):Past Γ.ShunL B (t ++ #[y]):=by
 have hz:(t ++ #[y])[t.size]? = some y:=by simp
 have hpl:p < t.size:=lt_of_act? hp
 have hql:q < t.size:=lt_of_act? hq
 have hzg:(t ++ #[y]).g? t.size=some 0:=by rw [g?_of hz,hy.1]
 have hzh:(t ++ #[y]).heard t.size:=⟨0,hzg,by rw [deaf_old (Nat.le_refl _)];exact h0⟩
 have pz:HappensBefore (t ++ #[y]) p t.size:=.single (.inr ⟨.closed (c:=Γ.Ch) (by rw [act?_old hpl];exact hp) (by rw [act?_of hz,hy.2]),(heard_old hpl).2 hph,hzh⟩)
 have qz:HappensBefore (t ++ #[y]) q t.size:=(hb_app _ (qei hqp hqg hpg)).trans pz
 have key:∀i k,act k→t.g? i=some k→i < t.size→t.counts i→∃j,(t ++ #[y]).g? j=some 0∧(i=j∨HappensBefore (t ++ #[y]) i j):=by
  intro i k hk hg hi hc
  rcases hact k hk with rfl | rfl | ⟨r,hr,hrq⟩
  ·exact ⟨i,by rw [g?_old hi];exact hg,.inl rfl⟩
  ·have hle:i≤p:=Nat.le_of_not_lt fun hlt=>haft i hlt hg hc
   rcases Nat.lt_or_ge i p with hlt | hge
   ·exact ⟨t.size,hzg,.inr ((hb_app _ (qei hlt hg hpg)).trans pz)⟩
   ·obtain rfl:i=p:=by omega
    exact ⟨t.size,hzg,.inr pz⟩
  ·have hle:i≤r:=Nat.le_of_not_lt fun hlt=>hr.after i hlt hg hc
   have edge:HappensBefore t r q:=.single (.inr ⟨.marked hrq (.inr hr.act) hq (fun k _ _=>hno k),hr.heard,hqh⟩)
   have rz:HappensBefore (t ++ #[y]) r t.size:=(hb_app _ edge).trans qz
   rcases Nat.lt_or_ge i r with hlt | hge
   ·exact ⟨t.size,hzg,.inr ((hb_app _ (qei hlt hg hr.g)).trans rz)⟩
   ·obtain rfl:i=r:=by omega
    exact ⟨t.size,hzg,.inr rz⟩
 have hny:y.act.touch? = none:=by rw [hy.2];rfl
 have old:∀{i:Nat} {a:Touch},touchAt (t ++ #[y]) i=some a→i < t.size∧touchAt t i=some a:=fun ha=>by
  rcases QO ha with h1 | ⟨op,_,h1,_,h3⟩
  ·exact h1
  ·simp at h1;subst h1;rw [hny] at h3;cases h3
 refine ⟨fun said=>noRace_append (h.nr said) (g:=0) (fun op hop=>(by simp at hop;rw [hop];exact hy.1)) fun i a _ op hop b hb _=>(by simp at hop;subst hop;rw [hny] at hb;cases hb),
  fun i a ha hm=>?_,fun i g hg hne hc=>?_,(by rw [Deaf_push];simp [deafStep,hy.2,h0]),seen_app h.low fun op hop=>(by simp at hop;rw [hop,hy.2];exact hCh)⟩
 ·obtain ⟨hi,h1⟩:=old ha
  rcases h.whose i a h1 hm with h2 | h2 | ⟨k,h2,h3,h4⟩
  ·exact .inl (h2.app _)
  ·exact .inr h2
  ·obtain ⟨j,hj,hb⟩:=key i k h2 h3 hi ⟨a,h1,hm,.inl h4⟩
   obtain ⟨z,hz1,hz2⟩:=Option.map_eq_some_iff.1 hj
   exact .inl ⟨j,z,hz1,hz2,hb⟩
 ·have hi:i < t.size:=by
   obtain ⟨x,hx,_⟩:=hc
   exact (old hx).1
  rcases h.over i g (by rw [← g?_old (u:=#[y]) hi];exact hg) hne ((counts_old hi).1 hc) with ⟨j,h1,h2⟩ | h2
  ·have hj:j < t.size:=by
    obtain ⟨z,hz,_⟩:=Option.map_eq_some_iff.1 h1
    exact lt_size_of_getElem? hz
   exact ⟨j,by rw [g?_old hj];exact h1,hb_app _ h2⟩
  ·obtain ⟨j,hj,hb⟩:=key i g h2 (by rw [← g?_old (u:=#[y]) hi];exact hg) hi ((counts_old hi).1 hc)
   rcases hb with rfl | hb
   ·rw [g?_old hi] at hj hg;rw [hj] at hg;cases hg;exact absurd rfl hne
   ·exact ⟨j,hj,hb⟩
theorem TR.start {Shun:Loc→Prop} (h:Past Shun B t) (hS:∀l,Shun l→Γ.ShunL l) (hact:∀k,act k↔k=0) (hown:∀k b,own k b→False) (hfresh:∀i x,touchAt t i=some x→blk x.loc=some Γ.Wg→x.kind≠.plain)
 (hro:∀b,Γ.ro b→∀l,blk l=some b→¬ Shun l) (hch:∀l,blk l=some Γ.Ch→¬ Shun l) (hg:∀(i:Nat) (op:MemOp),t[i]? = some op→op.g < N):TR Γ own act 0 B N t:=by
 refine ⟨h.seen,fun k _ l b _ ho=>(hown k b ho).elim,fun k hk l b hl hb i a ha e _=>?_,hfresh,fun i x hx hs hm=>?_,h.clean,hg,fun i x hx hm=>?_,fun i g hgi hne hc=>.inl (h.over i g hgi hne hc),fun k hk i x hx hb _=>?_⟩
 ·obtain rfl:=(hact k).1 hk
  rcases h.known i a ha (by rw [e];exact qeE hl) with h1 | ⟨h1,_⟩
  ·exact h1
  ·exact absurd h1 (hro b hb _ (e▸hl))
 ·rcases h.known i x hx hm with h1 | ⟨_,h1⟩
  ·exact h1
  ·rw [hs] at h1;cases h1
 ·rcases h.known i x hx hm with h1 | ⟨h1,h2⟩
  ·exact .inl h1
  ·exact .inr (.inl ⟨hS _ h1,h2⟩)
 ·obtain rfl:=(hact k).1 hk
  rcases h.known i x hx (qeE hb) with h1 | ⟨h1,_⟩
  ·exact h1
  ·exact absurd h1 (hch _ hb)
end
end Go.Fan
end
section
namespace Go.Fan
open Go Go.Conc Go.ConcN
open Go.ConcR (KK wgBlock WgAt stA smA rd wr mk DC0)
inductive Rank where
 | zero
 | node (f:World→Rank)
inductive Rank.Lt:Rank→Rank→Prop
 | mk (f:World→Rank) (w:World):Rank.Lt (f w) (.node f)
theorem Rank.wf:WellFounded Rank.Lt:=by
 refine ⟨fun r=>?_⟩
 induction r with
 | zero=>exact ⟨_,fun _ h=>by cases h⟩
 | node f ih=>exact ⟨_,fun _ h=>by cases h with | mk f w=>exact ih w⟩
def Rank.of:Nat→Rank
 | 0=>.zero
 | n+1=>.node fun _=>Rank.of n
theorem Rank.of_lt (n:Nat):Rank.Lt (Rank.of n) (Rank.of (n+1)):=.mk (fun _=>Rank.of n) default
def One (n:Nat) (r' r:Nat→Rank):Prop:=∃i,i < n∧Rank.Lt (r' i) (r i)∧∀j,j≠i→r' j=r j
theorem One.acc:∀(n:Nat) (r:Nat→Rank),Acc (One n) r
 | 0,r=>⟨_,fun _ ⟨_,h,_⟩=>absurd h (Nat.not_lt_zero _)⟩
 | n+1,r=>by
   have key:∀x:Rank,∀r:Nat→Rank,r n=x→Acc (One (n+1)) r:=by
    intro x
    induction x using Rank.wf.induction with
    | _ x ihx =>
      intro r hr
      have h:=One.acc n r
      induction h with
      | intro r _ ih =>
        refine ⟨_,fun r' ⟨i,hi,hlt,ho⟩=>?_⟩
        by_cases hin:i=n
        ·subst hin
         exact ihx (r' i) (hr▸hlt) r' rfl
        ·exact ih r' ⟨i,by omega,hlt,ho⟩ ((ho n (fun e=>hin e.symm)).trans hr)
   exact key _ r rfl
def Lt3 (n:Nat) (a b:Nat×(Nat→Rank)×Nat):Prop:=a.1 < b.1∨(a.1=b.1∧(One n a.2.1 b.2.1∨(a.2.1=b.2.1∧a.2.2 < b.2.2)))
theorem Lt3.wf (n:Nat):WellFounded (Lt3 n):=by
 have w:WellFounded (Prod.Lex (· < ·:Nat→Nat→Prop) (Prod.Lex (One n) (· < ·:Nat→Nat→Prop))):=(Prod.lex ⟨_,Nat.lt_wfRel.wf⟩ (Prod.lex ⟨_,⟨One.acc n⟩⟩ ⟨_,Nat.lt_wfRel.wf⟩)).wf
 refine Subrelation.wf (r:=Prod.Lex (· < ·:Nat→Nat→Prop) (Prod.Lex (One n) (· < ·:Nat→Nat→Prop))) (fun {a b} h=>?_) w
 obtain ⟨a1,a2,a3⟩:=a
 obtain ⟨b1,b2,b3⟩:=b
 rcases h with h | ⟨h1,h | ⟨h2,h3⟩⟩
 ·exact .left _ _ h
 ·simp only at h1;subst h1;exact .right _ (.left _ _ h)
 ·simp only at h1 h2;subst h1 h2;exact .right _ (.right _ h3)
structure Ry (Γ:Ge) (O:Nat→Prop) (w w₁:World):Prop where
 size:w.heap.size≤w₁.heap.size
 keep:∀b,b < w.heap.size→(Γ.ro b∨O b)→w₁.heap[b]? = w.heap[b]?
 live:WgLive Γ.ty Γ.Wg w→WgLive Γ.ty Γ.Wg w₁
 tape:w₁.tape=w.tape
 os:w₁.os=w.os
 output:w₁.output=w.output
section
variable {Γ:Ge} {O O':Nat→Prop} {w w₁ w₂:World}
theorem Ry.refl (w:World):Ry Γ O w w:=⟨Nat.le_refl _,fun _ _ _=>rfl,id,rfl,rfl,rfl⟩
theorem Ry.trans (h:Ry Γ O w w₁) (k:Ry Γ O w₁ w₂):Ry Γ O w w₂ :=
 ⟨Nat.le_trans h.size k.size,fun b hb ho=>(k.keep b (Nat.lt_of_lt_of_le hb h.size) ho).trans (h.keep b hb ho),k.live ∘ h.live,k.tape.trans h.tape,k.os.trans h.os,k.output.trans h.output⟩
theorem Ry.at (w:World) (d:Nat):Ry Γ O w (w.at d):=⟨Nat.le_refl _,fun _ _ _=>rfl,id,rfl,rfl,rfl⟩
theorem Ry.mono (h:Ry Γ O w w₁) (hO:∀b,O' b→O b):Ry Γ O' w w₁:=⟨h.size,fun b hb ho=>h.keep b hb (ho.imp id (hO b)),h.live,h.tape,h.os,h.output⟩
end
def EvO (Γ:Ge) (O:Nat→Prop) (B B':Nat) (e:Event):Prop :=
 (∀x,(MemAct.ofEvent e).touch? = some x→x.kind=.plain∧∃b,blk x.loc=some b∧((Γ.ro b∧x.write=false)∨O b∨B≤b))∧(e.loc≠.mark .disable∧e.loc≠.mark .enable∧∀a,e.loc≠.mark (.release a))∧(MemAct.ofEvent e).low B'
structure Gy (Γ:Ge) (O:Nat→Prop) (w w':World) (es:Array Event):Prop where
 size:w.heap.size≤w'.heap.size
 stay:∀b,b < w.heap.size→¬ O b→w'.heap[b]? = w.heap[b]?
 tape:w'.tape=w.tape
 os:w'.os=w.os
 output:w'.output=w.output
 evs:∀e∈es,EvO Γ O w.heap.size w'.heap.size e
def grow (O:Nat→Prop) (w w':World):Nat→Prop:=fun b=>O b∨(w.heap.size≤b∧b < w'.heap.size)
theorem yn {O:Nat→Prop} {w w':World} (h:w'.heap.size=w.heap.size):grow O w w'=O:=by
 funext b;unfold grow;rw [h];exact propext ⟨fun x=>x.elim id fun ⟨a,b⟩=>by omega,.inl⟩
section
variable (P:Program) (main:Bool) (Γ:Ge) (qt:Bool) (Stop:(Nat→Prop)→Goroutine→World→Prop)
def Walk:Rank→(Nat→Prop)→Goroutine→World→Prop
 | .zero,O,g,w=>∀w₁,Ry Γ O w w₁→Stop O g w₁
 | .node f,O,g,w=>(∀w₁,Ry Γ O w w₁→Stop O g w₁)∨(g.status=.running∧∀w₁,Ry Γ O w w₁→(stepG P main g w₁).goes fun g' w' es=>(Gy Γ O w₁ w' es∧(qt=true→es=#[]))∧Walk (f w₁) (grow O w₁ w') g' w')
def Way (O:Nat→Prop) (g:Goroutine) (w:World):Prop:=∃r,Walk P main Γ qt Stop r O g w
end
section
variable {P:Program} {main:Bool} {Γ:Ge} {qt:Bool} {Stop:(Nat→Prop)→Goroutine→World→Prop} {O:Nat→Prop} {g:Goroutine} {w w₁:World}
theorem Walk.rely {r:Rank} (h:Walk P main Γ qt Stop r O g w) (hr:Ry Γ O w w₁):Walk P main Γ qt Stop r O g w₁:=by
 cases r with
 | zero=>exact fun w₂ h₂=>h w₂ (hr.trans h₂)
 | node f =>
   rcases h with h | ⟨hs,h⟩
   ·exact .inl fun w₂ h₂=>h w₂ (hr.trans h₂)
   ·exact .inr ⟨hs,fun w₂ h₂=>h w₂ (hr.trans h₂)⟩
theorem Way.rely (h:Way P main Γ qt Stop O g w) (hr:Ry Γ O w w₁):Way P main Γ qt Stop O g w₁:=let ⟨r,h⟩:=h;⟨r,h.rely hr⟩
theorem Walk.running {r:Rank} (hS:∀O g w,Stop O g w→g.status=.running) (h:Walk P main Γ qt Stop r O g w):g.status=.running:=by
 cases r with
 | zero=>exact hS _ _ _ (h w (.refl w))
 | node f=>exact h.elim (fun h=>hS _ _ _ (h w (.refl w))) (·.1)
theorem Way.stop (h:∀w₁,Ry Γ O w w₁→Stop O g w₁):Way P main Γ qt Stop O g w:=⟨.zero,h⟩
theorem Way.step (hs:g.status=.running) (h:∀w₁,Ry Γ O w w₁→(stepG P main g w₁).goes fun g' w' es=>(Gy Γ O w₁ w' es∧(qt=true→es=#[]))∧Way P main Γ qt Stop (grow O w₁ w') g' w'):Way P main Γ qt Stop O g w:=by
 classical
 have h':∀w₁,∃r:Rank,Ry Γ O w w₁→(stepG P main g w₁).goes fun g' w' es=>(Gy Γ O w₁ w' es∧(qt=true→es=#[]))∧Walk P main Γ qt Stop r (grow O w₁ w') g' w':=by
  intro w₁
  by_cases hr:Ry Γ O w w₁
  ·have:=h w₁ hr
   cases e:stepG P main g w₁ with
   | go g' w' es =>
     rw [e,goes_go] at this
     obtain ⟨h1,r,h2⟩:=this
     exact ⟨r,fun _=>⟨h1,h2⟩⟩
   | _=>rw [e] at this;exact this.elim
  ·exact ⟨.zero,fun x=>absurd x hr⟩
 exact ⟨.node fun w₁=>(h' w₁).choose,.inr ⟨hs,fun w₁ hr=>(h' w₁).choose_spec hr⟩⟩
theorem Way.mono {Stop':(Nat→Prop)→Goroutine→World→Prop} (hm:∀O g w,Stop O g w→Stop' O g w) (h:Way P main Γ qt Stop O g w):Way P main Γ qt Stop' O g w:=by
 obtain ⟨r,h⟩:=h
 induction r generalizing O g w with
 | zero=>exact .stop fun w₁ hr=>hm _ _ _ (h w₁ hr)
 | node f ih =>
   rcases h with h | ⟨hs,h⟩
   ·exact .stop fun w₁ hr=>hm _ _ _ (h w₁ hr)
   ·refine .step hs fun w₁ hr=>?_
    have:=h w₁ hr
    cases e:stepG P main g w₁ with
    | go g' w' es=>rw [e,goes_go] at this;exact ⟨this.1,ih _ this.2⟩
    | _=>rw [e] at this;exact this.elim
theorem Way.bind {Stop':(Nat→Prop)→Goroutine→World→Prop} (h:Way P main Γ qt Stop O g w) (k:∀O g w,Stop O g w→Way P main Γ qt Stop' O g w):Way P main Γ qt Stop' O g w:=by
 obtain ⟨r,h⟩:=h
 induction r generalizing O g w with
 | zero=>exact k _ _ _ (h w (.refl w))
 | node f ih =>
   rcases h with h | ⟨hs,h⟩
   ·exact k _ _ _ (h w (.refl w))
   ·refine .step hs fun w₁ hr=>?_
    have:=h w₁ hr
    cases e:stepG P main g w₁ with
    | go g' w' es=>rw [e,goes_go] at this;exact ⟨this.1,ih _ this.2⟩
    | _=>rw [e] at this;exact this.elim
theorem Gy.still (w:World):Gy Γ O w w #[]:=⟨Nat.le_refl _,fun _ _ _=>rfl,rfl,rfl,rfl,by simp⟩
end
end Go.Fan
end
section
namespace Go.Fan
open Go Go.Conc Go.ConcN
open Go.ConcR (KK wgBlock WgAt stA smA rd wr mk DC0)
def RL (ty:TypeId) (Wg:Nat) (w w₁:World):Prop:=WgLive ty Wg w→WgLive ty Wg w₁
theorem rl {ty:TypeId} {Wg:Nat} {w w₁:World} (h:WgLive ty Wg w) (r:RL ty Wg w w₁):WgLive ty Wg w₁:=r h
section
variable (P:Program) (main:Bool) (ty:TypeId) (Wg:Nat)
def qG (Stop:Goroutine→World→Prop) (g:Goroutine) (w:World):Prop:=∃m,Goes P main (RL ty Wg) DC0 Stop m g w
def ZR (m:Mark) (Next:Goroutine→World→Prop) (g:Goroutine) (w:World):Prop :=
 g.status=.running∧∃g',stepG P main g w=.go g' w #[mk m]∧qG P main ty Wg Next g' w
def AtUp (Next:Nat→Goroutine→World→Prop) (g:Goroutine) (w:World):Prop :=
 g.status=.running∧∀v:Nat,v < 2147483647→WgAt ty Wg w (v * KK) 0 →
  ∃g',stepG P main g w=.go g' (w.setCell (stA Wg) (.int .u64 ((v+1) * KK))) #[rd (stA Wg),wr (stA Wg)]∧qG P main ty Wg (Next v) g' (w.setCell (stA Wg) (.int .u64 ((v+1) * KK)))
def Back (g₀:Goroutine) (g:Goroutine) (_:World):Prop:=g=g₀
def ZT (g₀:Goroutine):Goroutine→World→Prop :=
 ZR P main ty Wg .disable (AtUp P main ty Wg fun v=>if v=0 then ZR P main ty Wg (.read (smA Wg)) (ZR P main ty Wg .enable (Back g₀)) else ZR P main ty Wg .enable (Back g₀))
end
end Go.Fan
end
section
namespace Go.Fan
open Go Go.Conc Go.ConcN
open Go.ConcR (KK wgBlock WgAt stA smA rd wr mk DC0)
section
variable (P:Program) (Γ:Ge) (n:Nat)
def WD4 (g:Goroutine) (w:World):Prop :=
 g.status=.running∧mayWake P g=true∧(WgAt Γ.ty Γ.Wg w 0 0→∃g',stepG P false g w=.go g' (w.setCell (smA Γ.Wg) (.int .u32 1)) (semEvents (smA Γ.Wg))∧g'.status=.running∧∃q,QuitsD P q 1 g')
def WD3 (g:Goroutine) (w:World):Prop :=
 g.status=.running∧(WgAt Γ.ty Γ.Wg w 1 0→∃g',stepG P false g w=.go g' (w.setCell (stA Γ.Wg) (.int .u64 0)) #[wr (stA Γ.Wg)]∧(qG P false Γ.ty Γ.Wg) (WD4 P Γ) g' (w.setCell (stA Γ.Wg) (.int .u64 0)))
def WD2 (g:Goroutine) (w:World):Prop :=
 g.status=.running∧(WgAt Γ.ty Γ.Wg w 1 0→∃g',stepG P false g w=.go g' w #[rd (stA Γ.Wg)]∧(qG P false Γ.ty Γ.Wg) (WD3 P Γ) g' w)
def WD1 (g:Goroutine) (w:World):Prop :=
 g.status=.running∧∀v wt:Nat,wt≤1→v < 2147483647→WgAt Γ.ty Γ.Wg w ((v+1) * KK+wt) 0 →
  ∃g',stepG P false g w=.go g' (w.setCell (stA Γ.Wg) (.int .u64 (v * KK+wt))) #[rd (stA Γ.Wg),wr (stA Γ.Wg)] ∧
   ((v=0∧wt=1)→(qG P false Γ.ty Γ.Wg) (WD2 P Γ) g' (w.setCell (stA Γ.Wg) (.int .u64 (v * KK+wt))))∧(¬ (v=0∧wt=1)→∃q,QuitsD P q 1 g')
def WRel:Goroutine→World→Prop:=ZR P false Γ.ty Γ.Wg (.releaseMerge (stA Γ.Wg)) (ZR P false Γ.ty Γ.Wg .disable (WD1 P Γ))
def qcu (v:Value) (_:Nat→Prop) (g:Goroutine) (w:World):Prop :=
 g.status=.running∧∃z,stepG P false g w=.comm (core g) #[scase Γ.Ch v z] true .send w #[]∧(qG P false Γ.ty Γ.Wg) (WRel P Γ) (Conc.served g undef) w
def Work (v:Value):(Nat→Prop)→Goroutine→World→Prop:=Way P false Γ false (qcu P Γ v)
section
variable (Hd:Goroutine→World→Prop) (g₀:Goroutine)
def CEnd:Goroutine→World→Prop:=ZR P false Γ.ty Γ.Wg .enable (ZR P false Γ.ty Γ.Wg (.acquire (stA Γ.Wg)) (Back g₀))
def CSeen (g:Goroutine) (w:World):Prop :=
 g.status=.running∧(WgAt Γ.ty Γ.Wg w 0 0→∃g',stepG P false g w=.go g' w #[rd (stA Γ.Wg)]∧(qG P false Γ.ty Γ.Wg) (CEnd P Γ g₀) g' w)
def CSem (g:Goroutine) (w:World):Prop :=
 g.status=.running∧g.offers=none∧((∃st,WgAt Γ.ty Γ.Wg w st 0)→stepG P false g w=.go { g with status:=.blocked } w #[]) ∧
  (WgAt Γ.ty Γ.Wg w 0 1→∃g',stepG P false g w=.go g' (w.setCell (smA Γ.Wg) (.int .u32 0)) (semEvents (smA Γ.Wg))∧(qG P false Γ.ty Γ.Wg) (CSeen P Γ g₀) g' (w.setCell (smA Γ.Wg) (.int .u32 0)))
def CCas (vs:Nat) (g:Goroutine) (w:World):Prop :=
 g.status=.running∧∀v:Nat,v < 2147483648→WgAt Γ.ty Γ.Wg w (v * KK) 0 →
  (v=vs→∃g',stepG P false g w=.go g' (w.setCell (stA Γ.Wg) (.int .u64 (v * KK+1))) #[rd (stA Γ.Wg),wr (stA Γ.Wg)]∧(qG P false Γ.ty Γ.Wg) (ZR P false Γ.ty Γ.Wg (.write (smA Γ.Wg)) (CSem P Γ g₀)) g' (w.setCell (stA Γ.Wg) (.int .u64 (v * KK+1)))) ∧
  (v≠vs→∃g',stepG P false g w=.go g' w #[rd (stA Γ.Wg)]∧(qG P false Γ.ty Γ.Wg) Hd g' w)
def CLook (g:Goroutine) (w:World):Prop :=
 g.status=.running∧∀v:Nat,v < 2147483648→WgAt Γ.ty Γ.Wg w (v * KK) 0→∃g',stepG P false g w=.go g' w #[rd (stA Γ.Wg)] ∧
  (v=0→(qG P false Γ.ty Γ.Wg) (CEnd P Γ g₀) g' w)∧(v≠0→(qG P false Γ.ty Γ.Wg) (CCas P Γ Hd g₀ v) g' w)
end
def qbD (_:Nat→Prop) (g:Goroutine) (w:World):Prop :=
 g.status=.running∧mayWake P g=true∧∀s r tm,w.heap[Γ.Ch]? = some (.chan 0 #[] false s r tm) →
  ∃g' q,stepG P false g w=.go g' (w.shut Γ.Ch s r tm) #[⟨.obj Γ.Ch,false,true⟩,⟨.obj Γ.Ch,true,true⟩]∧QuitsD P q 0 g'
structure CBack (Hd:Goroutine→World→Prop) (g₀:Goroutine) (w:World):Prop where
 run:∀g w,Hd g w→g.status=.running
 rnd:∀g w,Hd g w→(qG P false Γ.ty Γ.Wg) (CLook P Γ Hd g₀) g w
 way:Way P false Γ false (qbD P Γ) (fun _=>False) g₀ w
def Clos (g:Goroutine) (w:World):Prop:=∃Hd g₀,(qG P false Γ.ty Γ.Wg) (ZR P false Γ.ty Γ.Wg .disable Hd) g w∧CBack P Γ Hd g₀ w
section
variable (mv:Nat→Value) (z:Value) (Anch:(Nat→Prop)→Goroutine→World→Prop)
def AtRcv (Next:(Nat→Prop)→Goroutine→World→Prop) (O:Nat→Prop) (g:Goroutine) (w:World):Prop :=
 g.status=.running∧stepG P true g w=.comm (core g) #[rcase Γ.Ch z] true (.recv true) w #[]∧Next O g w
def Xb:Nat→List Nat→(Nat→Prop)→Goroutine→World→Prop
 | 0,_=>AtRcv P Γ z (fun O g w=>Anch O (Conc.served g (recvd true z false)) w)
 | r+1,got=>AtRcv P Γ z (fun O g w=>∀i,i < n→i∉got→(Way P true Γ false) (Xb r (i :: got)) O (Conc.served g (recvd true (mv i) true)) w)
def MRcv (r:Nat) (got:List Nat):(Nat→Prop)→Goroutine→World→Prop:=(Way P true Γ false) (Xb P Γ n mv z Anch r got)
def MGoC (O:Nat→Prop) (g:Goroutine) (w:World):Prop :=
 g.status=.running∧∃g' child,stepG P true g w=.spawn g' child w #[]∧child.status=.running∧Clos P Γ child w∧MRcv P Γ n mv z Anch n [] O g' w
def MAdd (Next:(Nat→Prop)→Goroutine→World→Prop) (O:Nat→Prop) (g:Goroutine) (w:World):Prop:=∃g₀,ZT P true Γ.ty Γ.Wg g₀ g w∧(Way P true Γ false) Next O g₀ w
def MGo (i:Nat) (Next:(Nat→Prop)→Goroutine→World→Prop) (O:Nat→Prop) (g:Goroutine) (w:World):Prop :=
 g.status=.running∧∃g' child T,stepG P true g w=.spawn g' child w #[]∧child.status=.running∧(∀b,T b→O b)∧Work P Γ (mv i) T child w∧Next (fun b=>O b∧¬ T b) g' w
def MSp:Nat→(Nat→Prop)→Goroutine→World→Prop
 | 0=>(Way P true Γ false) (MGoC P Γ n mv z Anch)
 | r+1=>(Way P true Γ false) (MAdd P Γ (MGo P Γ mv (n - (r+1)) (MSp r)))
end
end
end Go.Fan
end
section
namespace Go.Fan
open Go Go.Conc Go.ConcN
open Go.ConcR (KK wgBlock WgAt stA smA rd wr mk DC0)
inductive MTg where
 | kd (r:Nat) | up (r:Nat) | rd (r:Nat) | ke (r:Nat) | go (r:Nat) | goc | rcv (r:Nat) | blk (r:Nat)
inductive CTg where
 | none | kd | look | cas (vs:Nat) | wm | sem | seen | ke | acq | cl | quit
structure Cf where
 j:Nat
 M:MTg
 got:List Nat
 C:CTg
 f:Nat
 s:Nat→Nat
 O:Nat→Nat→Prop
 d:Nat→Nat
 ρ:Nat→Rank
section
variable (P:Program) (Γ:Ge) (L n:Nat) (mv:Nat→Value) (z:Value) (Anch:(Nat→Prop)→Goroutine→World→Prop)
def StM (got:List Nat):MTg→(Nat→Prop)→Goroutine→World→Prop
 | .kd r=>MAdd P Γ (MGo P Γ mv (n - (r+1)) (MSp P Γ n mv z Anch r))
 | .up r=>fun O g w=>∃g₀,AtUp P true Γ.ty Γ.Wg (fun v=>if v=0 then ZR P true Γ.ty Γ.Wg (.read (smA Γ.Wg)) (ZR P true Γ.ty Γ.Wg .enable (Back g₀)) else ZR P true Γ.ty Γ.Wg .enable (Back g₀)) g w∧(Way P true Γ false) (MGo P Γ mv (n - (r+1)) (MSp P Γ n mv z Anch r)) O g₀ w
 | .rd r=>fun O g w=>∃g₀,ZR P true Γ.ty Γ.Wg (.read (smA Γ.Wg)) (ZR P true Γ.ty Γ.Wg .enable (Back g₀)) g w∧(Way P true Γ false) (MGo P Γ mv (n - (r+1)) (MSp P Γ n mv z Anch r)) O g₀ w
 | .ke r=>fun O g w=>∃g₀,ZR P true Γ.ty Γ.Wg .enable (Back g₀) g w∧(Way P true Γ false) (MGo P Γ mv (n - (r+1)) (MSp P Γ n mv z Anch r)) O g₀ w
 | .go r=>MGo P Γ mv (n - (r+1)) (MSp P Γ n mv z Anch r)
 | .goc=>MGoC P Γ n mv z Anch
 | .rcv r=>Xb P Γ n mv z Anch r got
 | .blk r=>Xb P Γ n mv z Anch r got
inductive MSit (got:List Nat) (ρ:Rank):MTg→(Nat→Prop)→Goroutine→World→Prop
 | run {tag:MTg} {O:Nat→Prop} {g:Goroutine} {w:World}:(∀r,tag≠.blk r)→Walk P true Γ false (StM P Γ n mv z Anch got tag) ρ O g w→MSit got ρ tag O g w
 | blk {r:Nat} {O:Nat→Prop} {g g':Goroutine} {w:World}:(g'=parked (core g) #[rcase Γ.Ch z] (.recv true)∨g'={ parked (core g) #[rcase Γ.Ch z] (.recv true) with status:=.running })→(∀w₁,Ry Γ O w w₁→Xb P Γ n mv z Anch r got O g w₁)→MSit got ρ (.blk r) O g' w
def StW (v:Value):Nat→(Nat→Prop)→Goroutine→World→Prop
 | 9=>qcu P Γ v
 | 7=>fun _=>WRel P Γ
 | 6=>fun _=>ZR P false Γ.ty Γ.Wg .disable (WD1 P Γ)
 | 5=>fun _=>WD1 P Γ
 | 4=>fun _=>WD2 P Γ
 | 3=>fun _=>WD3 P Γ
 | 2=>fun _=>WD4 P Γ
 | _=>fun _ _ _=>False
inductive WSit (v:Value) (d:Nat):Nat→Rank→(Nat→Prop)→Goroutine→World→Prop
 | run {s:Nat} {ρ:Rank} {O:Nat→Prop} {g:Goroutine} {w:World}:s≠8→s≠1→Walk P false Γ (decide (s≤6)) (StW P Γ v s) ρ O g w→WSit v d s ρ O g w
 | prk {ρ:Rank} {O:Nat→Prop} {g:Goroutine} {w:World} {z:Value}:qG P false Γ.ty Γ.Wg (WRel P Γ) (Conc.served g undef) w→WSit v d 8 ρ O (parked (core g) #[scase Γ.Ch v z] .send) w
 | quit {q:Nat} {O:Nat→Prop} {g:Goroutine} {w:World}:QuitsD P q d g→WSit v d 1 (.of q) O g w
def StC:CTg→(Nat→Prop)→Goroutine→World→Prop
 | .kd=>fun _ g w=>∃Hd g₀,ZR P false Γ.ty Γ.Wg .disable Hd g w∧CBack P Γ Hd g₀ w
 | .look=>fun _ g w=>∃Hd g₀,CLook P Γ Hd g₀ g w∧CBack P Γ Hd g₀ w
 | .cas vs=>fun _ g w=>∃Hd g₀,CCas P Γ Hd g₀ vs g w∧CBack P Γ Hd g₀ w
 | .wm=>fun _ g w=>∃Hd g₀,ZR P false Γ.ty Γ.Wg (.write (smA Γ.Wg)) (CSem P Γ g₀) g w∧CBack P Γ Hd g₀ w
 | .sem=>fun _ g w=>∃Hd g₀,CSem P Γ g₀ g w∧CBack P Γ Hd g₀ w
 | .seen=>fun _ g w=>∃Hd g₀,CSeen P Γ g₀ g w∧CBack P Γ Hd g₀ w
 | .ke=>fun _ g w=>∃Hd g₀,CEnd P Γ g₀ g w∧CBack P Γ Hd g₀ w
 | .acq=>fun _ g w=>∃Hd g₀,ZR P false Γ.ty Γ.Wg (.acquire (stA Γ.Wg)) (Back g₀) g w∧CBack P Γ Hd g₀ w
 | .cl=>qbD P Γ
 | _=>fun _ _ _=>False
inductive CSit (f:Nat) (d:Nat):CTg→Rank→(Nat→Prop)→Goroutine→World→Prop
 | run {tag:CTg} {ρ:Rank} {O:Nat→Prop} {g:Goroutine} {w:World}:tag≠.none→tag≠.quit→(tag=.sem→f=1)→Walk P false Γ false (StC P Γ tag) ρ O g w→CSit f d tag ρ O g w
 | blk {ρ:Rank} {O:Nat→Prop} {g:Goroutine} {w:World}:f=0→g.offers=none→(∀w₁,Ry Γ O w w₁→StC P Γ .sem O g w₁)→CSit f d .sem ρ O { g with status:=.blocked } w
 | quit {q:Nat} {O:Nat→Prop} {g:Goroutine} {w:World}:QuitsD P q d g→CSit f d .quit (.of q) O g w
inductive Sit (c:Cf) (k:Nat) (g:Goroutine) (w:World):Prop
 | main:k=0→MSit P Γ n mv z Anch c.got (c.ρ k) c.M (c.O k) g w→Sit c k g w
 | old {q:Nat}:0 < k→k < L→c.ρ k=.of q→QuitsD P q (c.d k) g→Sit c k g w
 | work {i:Nat}:i < c.j→k=L+i→WSit P Γ (mv i) (c.d k) (c.s i) (c.ρ k) (c.O k) g w→Sit c k g w
 | close:k=L+n→CSit P Γ c.f (c.d k) c.C (c.ρ k) (c.O k) g w→Sit c k g w
def dM:MTg→Nat
 | .up _ | .rd _ | .ke _=>1
 | _=>0
def dC:CTg→Nat
 | .look | .cas _ | .wm | .sem | .seen | .ke=>1
 | _=>0
def dW (s:Nat):Nat:=if s≤5 then 1 else 0
def pend:MTg→Nat
 | .rd _ | .ke _ | .go _=>1
 | _=>0
def cnt (s:Nat):Nat:=if 5≤s then 1 else 0
def Vc (c:Cf):Nat:=sumTo c.j fun i=>cnt (c.s i)
def due (s:Nat):Nat:=if 8≤s then 1 else 0
def isOpen:CTg→Prop
 | .none | .kd | .look | .cas _=>True
 | _=>False
def Qy:CTg→Prop
 | .wm | .sem=>True
 | _=>False
def isFin:CTg→Prop
 | .seen | .ke | .acq | .cl | .quit=>True
 | _=>False
def OpenSt (c:Cf):Prop:=∀i,i < c.j→5≤c.s i∨c.s i=1
def AllQuit (c:Cf):Prop:=∀i,i < c.j→c.s i=1
inductive Mode (c:Cf):Int→Int→Prop
 | opn:isOpen c.C→OpenSt c→(∀vs,c.C=.cas vs→Vc c≤vs∧1≤vs)→Mode c (((Vc c+pend c.M:Nat):Int) * KK) 0
 | reg:Qy c.C→OpenSt c→1≤Vc c→Mode c (((Vc c:Nat):Int) * KK+1) 0
 | last (l:Nat):Qy c.C→l < c.j→(c.s l=4∨c.s l=3∨c.s l=2)→(∀i,i < c.j→i≠l→c.s i=1)→Mode c (if c.s l=2 then 0 else 1) 0
 | sema:Qy c.C→(c.C=.sem→c.f=1)→AllQuit c→Mode c 0 1
 | fin:isFin c.C→AllQuit c→Mode c 0 0
def ZJ (c:Cf):Prop:=match c.M with
 | .kd r | .up r | .rd r | .ke r | .go r=>r < n∧c.j+(r+1)=n∧c.C=.none
 | .goc=>c.j=n∧c.C=.none
 | _=>c.j=n∧c.C≠.none
def ZI (c:Cf):Prop:=match c.M with
 | .rcv r=>(∀i,i∈c.got↔i < n∧c.s i≤7)∧sumTo n (fun i=>due (c.s i))=r
 | .blk r=>(∀i,i∈c.got↔i < n∧c.s i≤7)∧sumTo n (fun i=>due (c.s i))=r∧∀i,i < n→c.s i≠8
 | _=>c.got=[]∧∀i,i < c.j→8≤c.s i
def Act (c:Cf) (k:Nat):Prop:=k=0∨(∃i,i < c.j∧k=L+i)∨(c.C≠.none∧k=L+n)
def own (c:Cf) (k b:Nat):Prop:=Act L n c k∧c.O k b
open Classical in
noncomputable def sg (c:Cf):Nat:=if c.C=.none then 0 else L+n
open Classical in
noncomputable def isN (c:Cf):Nat:=if c.C=.none then 0 else 1
def Acq (t:Trace) (q:Nat):Prop:=t.act? q=some (.mark (.acquire (stA Γ.Wg)))∧t.g? q=some (L+n)∧t.heard q∧∀i,i < n→∃r,RelBy (stA Γ.Wg) t (L+i) r∧r < q
def Cls (t:Trace):Prop:=∃q p,Acq Γ L n t q∧q < p∧t.act? p=some (.close Γ.Ch)∧t.g? p=some (L+n)∧t.heard p∧∀i,p < i→t.g? i=some (L+n)→¬ t.counts i
structure Fr (w0 w:World):Prop where
 low:∀b,b < Γ.B0→b≠Γ.Wg→b≠Γ.Ch→w.heap[b]? = w0.heap[b]?
 size:Γ.B0≤w.heap.size
 tape:w.tape=w0.tape
 os:w.os=w0.os
 output:w.output=w0.output
structure Inv (w0:World) (c:Cf) (gs:Array Goroutine) (w:World) (t:Trace):Prop where
 geo:1≤L∧Γ.Wg < Γ.B0∧Γ.Ch < Γ.B0∧Γ.Ch≠Γ.Wg∧n < 2147483648
 size:gs.size=L+c.j+isN c
 tags:ZJ n c
 sit:∀k g,gs[k]? = some g→Sit P Γ L n mv z Anch c k g w
 deaf:∀k,k < gs.size→Deaf t k=c.d k
 dm:c.d 0=dM c.M
 dw:∀i,i < c.j→c.s i≠1→c.d (L+i)=dW (c.s i)
 dc:c.C≠.none→c.C≠.quit→c.d (L+n)=dC c.C
 wg:∃st sm,WgAt Γ.ty Γ.Wg w st sm∧Mode c st sm
 ch:∃cl s r tm,w.heap[Γ.Ch]? = some (.chan 0 #[] cl s r tm)∧(cl=true↔c.C=.quit)
 rc:ZI n c
 dis:Dis Γ (own L n c) w.heap.size
 tr:TR Γ (own L n c) (Act L n c) (sg L n c) w.heap.size gs.size t
 nor:NoRelease (stA Γ.Wg) t
 rel:∀i,i < c.j→c.s i≤6→∃r,RelBy (stA Γ.Wg) t (L+i) r
 acq:c.C=.cl→∃q,Acq Γ L n t q
 cls:c.C=.quit→Cls Γ L n t
 fr:Fr Γ w0 w
 ono:∀k,¬ Act L n c k→∀b,¬ c.O k b
 woke:∀r,c.M=.blk r→∃a,gs[0]? = some a∧(c.C=.quit→a.status=.running)∧(c.C≠.quit→a.status=.blocked)
def wM:MTg→Nat
 | .kd r=>10 * n+60+20 * r+5
 | .up r=>10 * n+60+20 * r+4
 | .rd r=>10 * n+60+20 * r+3
 | .ke r=>10 * n+60+20 * r+2
 | .go r=>10 * n+60+20 * r+1
 | .goc=>10 * n+40
 | .rcv r=>2 * r+4
 | .blk r=>2 * r+3
def wC (V:Nat):CTg→Nat
 | .none=>0
 | .kd=>8 * n+20
 | .look=>8 * V+18
 | .cas vs=>8 * vs+16
 | .wm=>16
 | .sem=>15
 | .seen=>14
 | .ke=>13
 | .acq=>12
 | .cl=>11
 | .quit=>1
def Ssum (c:Cf):Nat:=sumTo c.j c.s
def μ (c:Cf):Nat×(Nat→Rank)×Nat:=(wM n c.M+Ssum c+wC n (Vc c) c.C,c.ρ,c.f)
end
end Go.Fan
end
section
namespace Go.Fan
open Go Go.Conc Go.ConcN
open Go.ConcR (KK wgBlock WgAt stA smA rd wr mk DC0 g_of_ofEvents)
section
variable {P:Program} {Γ:Ge} {L n:Nat} {mv:Nat→Value} {z:Value} {Anch:(Nat→Prop)→Goroutine→World→Prop}
theorem StM.running {got:List Nat}:∀{tag:MTg} {O:Nat→Prop} {g:Goroutine} {w:World},StM P Γ n mv z Anch got tag O g w→g.status=.running
 | .kd _,_,_,_,⟨_,h,_⟩=>h.1
 | .up _,_,_,_,⟨_,h,_⟩=>h.1
 | .rd _,_,_,_,⟨_,h,_⟩=>h.1
 | .ke _,_,_,_,⟨_,h,_⟩=>h.1
 | .go _,_,_,_,h=>h.1
 | .goc,_,_,_,h=>h.1
 | .rcv 0,_,_,_,h=>h.1
 | .rcv (_+1),_,_,_,h=>h.1
 | .blk 0,_,_,_,h=>h.1
 | .blk (_+1),_,_,_,h=>h.1
theorem StW.running {v:Value} {s:Nat} {O:Nat→Prop} {g:Goroutine} {w:World} (h:StW P Γ v s O g w):g.status=.running:=by
 unfold StW at h
 split at h <;> first | exact h.1 | exact h.elim
theorem StC.running {tag:CTg} {O:Nat→Prop} {g:Goroutine} {w:World} (h:StC P Γ tag O g w):g.status=.running:=by
 cases tag <;> first | exact h.1 | exact h.elim | (obtain ⟨_,_,h,_⟩:=h;exact h.1)
theorem Ry.rl {O:Nat→Prop} {w w₁:World} (h:Ry Γ O w w₁):RL Γ.ty Γ.Wg w w₁:=h.live
theorem qG.rely {main:Bool} {Stop:Goroutine→World→Prop} {ty Wg:Nat} {g:Goroutine} {w w₁:World} (h:qG P main ty Wg Stop g w) (hr:RL ty Wg w w₁):qG P main ty Wg Stop g w₁ :=
 let ⟨m,h⟩:=h;⟨m,Goes.rely (R:=RL ty Wg) (fun _ _ _ a b x=>b (a x)) h hr⟩
theorem Way.of_goes {main qt:Bool} {Stop:Goroutine→World→Prop} {O:Nat→Prop} {X:World→Prop} {m:Nat} {g:Goroutine} {w:World} (h:Goes P main (RL Γ.ty Γ.Wg) DC0 Stop m g w) (hX:∀w₁,Ry Γ O w w₁→X w₁) :
 Way P main Γ qt (fun O' g w=>Stop g w∧O'=O∧X w) O g w:=by
 induction m generalizing g w with
 | zero=>exact .stop fun w₁ hr=>⟨h w₁ hr.rl,rfl,hX w₁ hr⟩
 | succ m ih =>
   rcases h with h | ⟨hs,h⟩
   ·exact .stop fun w₁ hr=>⟨h w₁ hr.rl,rfl,hX w₁ hr⟩
   ·refine .step hs fun w₁ hr=>?_
    have:=h w₁ hr.rl
    cases e:stepG P main g w₁ with
    | go g' w' es =>
      rw [e,goes_go] at this
      obtain ⟨⟨rfl,rfl⟩,h2⟩:=this
      refine ⟨⟨Gy.still _,fun _=>rfl⟩,?_⟩
      rw [yn rfl]
      exact ih h2 fun w₂ h₂=>hX w₂ (hr.trans h₂)
    | _=>rw [e] at this;exact this.elim
theorem Way.of_thence {main qt:Bool} {Stop:Goroutine→World→Prop} {O:Nat→Prop} {X:World→Prop} {g:Goroutine} {w:World} (h:qG P main Γ.ty Γ.Wg Stop g w) (hX:∀w₁,Ry Γ O w w₁→X w₁) :
 Way P main Γ qt (fun O' g w=>Stop g w∧O'=O∧X w) O g w:=let ⟨_,h⟩:=h;Way.of_goes h hX
theorem CBack.rely {Hd:Goroutine→World→Prop} {g₀:Goroutine} {w w₁:World} {O:Nat→Prop} (h:CBack P Γ Hd g₀ w) (hr:Ry Γ O w w₁):CBack P Γ Hd g₀ w₁ :=
 ⟨h.run,h.rnd,h.way.rely (hr.mono fun _ h=>h.elim)⟩
def Chan (Γ:Ge) (w:World):Prop:=∃cl s r tm,w.heap[Γ.Ch]? = some (.chan 0 #[] cl s r tm)
def Open (Γ:Ge) (w:World):Prop:=∃s r tm,w.heap[Γ.Ch]? = some (.chan 0 #[] false s r tm)
section
variable {x x':Goroutine} {w w':World}
theorem MSit.keep {got:List Nat} {ρ:Rank} {tag:MTg} {O:Nat→Prop} {g:Goroutine} (h:MSit P Γ n mv z Anch got ρ tag O g w) (hr:Ry Γ O w w') (ho:Chan Γ w'):MSit P Γ n mv z Anch got ρ tag O (woken P x x' w' g) w':=by
 cases h with
 | run h1 h3=>rw [woken_run (h3.running fun _ _ _=>StM.running)];exact .run h1 (h3.rely hr)
 | blk hst h1 =>
   have h2:=fun w₂ (h₂:Ry Γ O w' w₂)=>h1 w₂ (hr.trans h₂)
   rcases hst with rfl | rfl
   ·obtain ⟨cl,s,r,tm,ho⟩:=ho
    cases cl with
    | false=>rw [woken_recv_open _ _ ho];exact .blk (.inl rfl) h2
    | true =>
      unfold woken
      split
      ·rw [again_recv_closed ho];exact .blk (.inr rfl) h2
      ·exact .blk (.inl rfl) h2
   ·rw [woken_run rfl];exact .blk (.inr rfl) h2
theorem WSit.keep {v:Value} {d s:Nat} {ρ:Rank} {O:Nat→Prop} {g:Goroutine} (h:WSit P Γ v d s ρ O g w) (hr:Ry Γ O w w') (ho:Open Γ w'∨s≠8):WSit P Γ v d s ρ O (woken P x x' w' g) w':=by
 cases h with
 | run h1 h2 h3=>rw [woken_run (h3.running fun _ _ _=>StW.running)];exact .run h1 h2 (h3.rely hr)
 | prk h1 =>
   rcases ho with ⟨s,r,tm,ho⟩ | ho
   ·rw [woken_send_open _ _ ho];exact .prk (h1.rely hr.rl)
   ·exact absurd rfl ho
 | quit h1=>rw [woken_quitsD h1];exact .quit h1
theorem CSit.keep {f d:Nat} {tag:CTg} {ρ:Rank} {O:Nat→Prop} {g:Goroutine} (h:CSit P Γ f d tag ρ O g w) (hr:Ry Γ O w w') :
 ∃f',(f'=f∨f'=1)∧(mayWake P x=true→x'.status=.running→tag=.sem→f'=1)∧CSit P Γ f' d tag ρ O (woken P x x' w' g) w':=by
 cases h with
 | run h1 h2 h3 h4=>rw [woken_run (h4.running fun _ _ _=>StC.running)];exact ⟨f,.inl rfl,fun _ _ e=>h3 e,.run h1 h2 h3 (h4.rely hr)⟩
 | quit h1=>rw [woken_quitsD h1];exact ⟨f,.inl rfl,(fun _ _ e=>by cases e),.quit h1⟩
 | @blk ρ O g w h1 h2 h3 =>
   have hs:g.status=.running:=StC.running (h3 w (.refl w))
   by_cases hw:(mayWake P x && x'.status != .blocked && x'.status != .waiting)=true
   ·have e:woken P x x' w' { g with status:=.blocked }=g:=by
     unfold woken
     rw [if_pos hw]
     exact Go.ConcR.again_blocked hs h2 w'
    rw [e]
    refine ⟨1,.inr rfl,fun _ _ _=>rfl,.run (by simp) (by simp) (fun _=>rfl) ?_⟩
    cases ρ with
    | zero=>exact fun w₂ h₂=>h3 w₂ (hr.trans h₂)
    | node f=>exact .inl fun w₂ h₂=>h3 w₂ (hr.trans h₂)
   ·have e:woken P x x' w' { g with status:=.blocked }={ g with status:=.blocked }:=by
     unfold woken
     rw [if_neg hw]
    rw [e]
    refine ⟨f,.inl rfl,fun h4 h5 _=>absurd ?_ hw,.blk h1 h2 fun w₂ h₂=>h3 w₂ (hr.trans h₂)⟩
    rw [h4,h5];rfl
structure Like (L n:Nat) (c c':Cf) (k:Nat):Prop where
 M:k=0→c'.M=c.M∧c'.got=c.got
 W:∀i,i < c.j→k=L+i→i < c'.j∧c'.s i=c.s i
 C:k=L+n→c'.C=c.C
 O:c'.O k=c.O k
 d:c'.d k=c.d k
 ρ:c'.ρ k=c.ρ k
theorem Sit.like {c c':Cf} {k:Nat} {g:Goroutine} (h:Sit P Γ L n mv z Anch c k g w) (hl:Like L n c c' k) (hf:c'.f=c.f∨k≠L+n):Sit P Γ L n mv z Anch c' k g w:=by
 cases h with
 | main h1 h2=>exact .main h1 (by rw [(hl.M h1).1,(hl.M h1).2,hl.O,hl.ρ];exact h2)
 | old h1 h2 h3 h4=>exact .old h1 h2 (hl.ρ.trans h3) (by rw [hl.d];exact h4)
 | work h1 h2 h3=>exact .work (hl.W _ h1 h2).1 h2 (by rw [(hl.W _ h1 h2).2,hl.O,hl.ρ,hl.d];exact h3)
 | close h1 h2 =>
   rcases hf with hf | hf
   ·exact .close h1 (by rw [hl.C h1,hl.O,hl.ρ,hl.d,hf];exact h2)
   ·exact absurd h1 hf
theorem Sit.keep {c:Cf} {k:Nat} {g:Goroutine} (hL:1≤L) (h:Sit P Γ L n mv z Anch c k g w) (hr:Ry Γ (c.O k) w w') (hc:Chan Γ w') (ho:Open Γ w'∨∀i,i < c.j→k=L+i→c.s i≠8) :
 ∃f',(f'=c.f∨f'=1)∧(k≠L+n→f'=c.f)∧(mayWake P x=true→x'.status=.running→c.C=.sem→k=L+n→f'=1)∧Sit P Γ L n mv z Anch { c with f:=f' } k (woken P x x' w' g) w':=by
 cases h with
 | main h1 h2=>exact ⟨c.f,.inl rfl,fun _=>rfl,(fun _ _ _ e=>by omega),.main h1 (h2.keep hr hc)⟩
 | old h1 h2 h3 h4=>exact ⟨c.f,.inl rfl,fun _=>rfl,(fun _ _ _ e=>by omega),by rw [woken_quitsD h4];exact .old h1 h2 h3 h4⟩
 | @work i h1 h2 h3 =>
   by_cases hk:k=L+n
   ·exact ⟨1,.inr rfl,fun h=>absurd hk h,fun _ _ _ _=>rfl,.work h1 h2 (h3.keep hr (ho.imp id fun h=>h i h1 h2))⟩
   ·exact ⟨c.f,.inl rfl,fun _=>rfl,fun _ _ _ e=>absurd e hk,.work h1 h2 (h3.keep hr (ho.imp id fun h=>h i h1 h2))⟩
 | close h1 h2 =>
   obtain ⟨f',a,b,d⟩:=h2.keep (x:=x) (x':=x') hr
   exact ⟨f',a,fun h=>absurd h1 h,fun e1 e2 e3 _=>b e1 e2 e3,.close h1 d⟩
end
end
end Go.Fan
end
section
namespace Go.Fan
open Go Go.Conc Go.ConcN
open Go.ConcR (DC0)
section
variable {Γ:Ge} {O:Nat→Prop} {w w':World} {es:Array Event}
theorem Gy.nothing (h:∀e∈es,False):Gy Γ O w w es:=⟨Nat.le_refl _,fun _ _ _=>rfl,rfl,rfl,rfl,fun e he=>(h e he).elim⟩
theorem Gy.reads (h:∀e∈es,EvO Γ O w.heap.size w.heap.size e):Gy Γ O w w es:=⟨Nat.le_refl _,fun _ _ _=>rfl,rfl,rfl,rfl,h⟩
theorem Gy.alloc (o:Obj) (h:∀e∈es,False):Gy Γ O w (w.alloc o) es :=
 ⟨by simp [World.size_alloc],fun b hb _=>by exact RowKit.Below.heap_alloc _ _ _ hb,rfl,rfl,rfl,fun e he=>(h e he).elim⟩
theorem Gy.set {a:Addr} {v:Value} (hO:O a.block) (h:∀e∈es,EvO Γ O w.heap.size w.heap.size e):Gy Γ O w (w.setCell a v) es:=by
 have:=aside_setCell w a v
 exact ⟨Nat.le_of_eq this.size.symm,fun b _ hb=>this.block b fun e=>hb (e▸hO),this.tape,this.os,this.output,fun e he=>by rw [this.size];exact h e he⟩
theorem QK {a:Addr} {wr:Bool} {B B':Nat} (h:(Γ.ro a.block∧wr=false)∨O a.block∨B≤a.block) (hb:a.block < B'):EvO Γ O B B' ⟨.cell a,wr,false⟩:=by
 have e1:MemAct.ofEvent ⟨.cell a,wr,false⟩=.access ⟨.cell a,wr,false⟩:=by cases wr <;> rfl
 refine ⟨fun t ht=>?_,⟨by simp,by simp,by simp⟩,by rw [e1];exact hb⟩
 rw [e1] at ht
 simp only [MemAct.touch?,Option.some.injEq] at ht
 subst ht
 exact ⟨rfl,_,rfl,h⟩
theorem jZ (o:Obj):grow O w (w.alloc o)=fun b=>O b∨b=w.heap.size:=by
 funext b
 unfold grow
 rw [World.size_alloc]
 exact propext ⟨fun h=>h.imp id fun ⟨a,b⟩=>by omega,fun h=>h.imp id fun e=>by omega⟩
theorem Zy (a:Addr) (v:Value):grow O w (w.setCell a v)=O:=yn (aside_setCell w a v).size
theorem Way.cast {P:Program} {main qt:Bool} {Stop:(Nat→Prop)→Goroutine→World→Prop} {O':Nat→Prop} {g:Goroutine} (e:O'=O) (h:Way P main Γ qt Stop O g w):Way P main Γ qt Stop O' g w:=e▸h
end
end Go.Fan
end
section
namespace Go.Fan
open Go Go.Conc Go.ConcN
open Go.ConcR (DC0)
section
variable {P:Program} {main:Bool} {Γ:Ge} {Stop:(Nat→Prop)→Goroutine→World→Prop} {O:Nat→Prop} {w w₁:World}
theorem Ry.block (h:Ry Γ O w w₁) {b:Nat} {o:Obj} (hb:Γ.ro b∨O b) (hc:w.heap[b]? = some o):w₁.heap[b]? = some o :=
 (h.keep b (Array.getElem?_eq_some_iff.1 hc).1 hb).trans hc
theorem Way.ctl {g g':Goroutine} (hs:g.status=.running) (h:∀w,stepG P main g w=.go g' w #[]) (k:Way P main Γ false Stop O g' w):Way P main Γ false Stop O g w :=
 .step hs fun w₁ hr=>by
  rw [h,goes_go,yn rfl]
  exact ⟨⟨Gy.still _,fun h=>by cases h⟩,k.rely hr⟩
theorem Way.draws {g:Goroutine} {g':World→Goroutine} (hs:g.status=.running) (h:∀w,stepG P main g w=.go (g' w) { w with drawn:=w.drawn+1 } #[]) (k:∀w₁,Ry Γ O w w₁→Way P main Γ false Stop O (g' w₁) w₁):Way P main Γ false Stop O g w :=
 .step hs fun w₁ hr=>by
  rw [h,goes_go,yn (w:=w₁) (w':={ w₁ with drawn:=w₁.drawn+1 }) rfl]
  exact ⟨⟨⟨Nat.le_refl _,fun _ _ _=>rfl,rfl,rfl,rfl,by simp⟩,fun h=>by cases h⟩,(k w₁ hr).rely ⟨Nat.le_refl _,fun _ _ _=>rfl,id,rfl,rfl,rfl⟩⟩
variable {b:Frame} {a:Go.Act} {kk:List Item} {cs:List Frame} {ops:Array Oper} {i:Nat} {rest:List Nat} {o:Oper}
theorem Way.gen (ho:ops[i]? = some o) (hw:Region.wanted o (yielded ops a.tmps)=true) (hk:b.kind≠.early)
 (h:∀w₁,Ry Γ O w w₁→∀K:Go.Act→World→Prop,(∀a' w',Gy Γ O w₁ w' (listed P b.fn a o w₁)→Way P main Γ false Stop (grow O w₁ w') (G (b.at a' (.inRegion ops rest :: kk)) cs) w'→K a' w')→uponK o a K ((execOp a.eval o).run P w₁)) :
 Way P main Γ false Stop O (G (b.at a (.inRegion ops (i :: rest) :: kk)) cs) w :=
 .step rfl fun w₁ hr=>goes_oper_k ho hw hk fun K hK=>h w₁ hr K fun a' w' h1 h2=>hK a' w' ⟨⟨h1,fun h=>by cases h⟩,h2⟩
theorem Way.value (v:Value) (ho:ops[i]? = some o) (hw:Region.wanted o (yielded ops a.tmps)=true) (hk:b.kind≠.early)
 (hr:∀w₁,(execOp a.eval o).run P w₁=.ok (.value v) w₁) (he:∀w₁,(execOp a.eval o).events P w₁ #[]=#[])
 (k:Way P main Γ false Stop O (G (b.at (a.put o.dst v) (.inRegion ops rest :: kk)) cs) w):Way P main Γ false Stop O (G (b.at a (.inRegion ops (i :: rest) :: kk)) cs) w :=
 .gen ho hw hk fun w₁ h K hK=>by
  rw [hr]
  refine hK _ _ ?_ ?_
  ·rw [listed_nil (he _)];exact Gy.still _
  ·rw [yn rfl];exact k.rely h
theorem Way.reads (v:Value) (bk:Nat) (ho:ops[i]? = some o) (hw:Region.wanted o (yielded ops a.tmps)=true) (hk:b.kind≠.early) (hb:Γ.ro bk∨O bk) (hlt:bk < w.heap.size)
 (hr:∀w₁,w₁.heap[bk]? = w.heap[bk]?→(execOp a.eval o).run P w₁=.ok (.value v) w₁∧∀e∈(execOp a.eval o).events P w₁ #[],∃off s,e=⟨.cell ⟨bk,off,s⟩,false,false⟩)
 (k:Way P main Γ false Stop O (G (b.at (a.put o.dst v) (.inRegion ops rest :: kk)) cs) w):Way P main Γ false Stop O (G (b.at a (.inRegion ops (i :: rest) :: kk)) cs) w :=
 .gen ho hw hk fun w₁ h K hK=>by
  obtain ⟨h1,h2⟩:=hr w₁ (h.keep bk hlt hb)
  rw [h1]
  refine hK _ _ (Gy.reads fun e he=>?_) ?_
  ·obtain ⟨off,s,rfl⟩:=h2 e (mem_listed he)
   exact QK (hb.elim (fun h=>.inl ⟨h,rfl⟩) fun h=>.inr (.inl h)) (Nat.lt_of_lt_of_le hlt h.size)
  ·rw [yn rfl];exact k.rely h
theorem qdN {ad:Addr} {v:Value} (hc:w.cell? ad=some v):ad.block < w.heap.size:=by
 rcases Nat.lt_or_ge ad.block w.heap.size with h | h
 ·exact h
 ·simp [World.cell?,Array.getElem?_eq_none h] at hc
theorem xQ (bk:Nat) {e:TypeId} (cells:Array Value) (f:Nat×Nat) (hc:w.heap[bk]? = some (.cells cells e f)):∀(n i:Nat) (acc:Array Value) (es:Array Event),i+n≤cells.size→(∀ev∈es,∃off s,ev=⟨.cell ⟨bk,off,s⟩,false,false⟩) →
 ∀ev∈(loadCellsFrom ⟨bk,0,none⟩ i n acc).events P w es,∃off s,ev=⟨.cell ⟨bk,off,s⟩,false,false⟩
 | 0,_,_,_,_,h=>fun ev he=>h ev (by simpa [loadCellsFrom] using he)
 | n+1,i,acc,es,hi,h=>fun ev he=>by
   have hadd:(⟨bk,0,none⟩:Addr).add i=⟨bk,i,none⟩:=by unfold Addr.add;split <;> simp_all
   have hcell:w.cell? ⟨bk,i,none⟩=some cells[i]:=by rw [cell_of_row w bk i cells _ f hc];simp
   simp only [loadCellsFrom,Sem.events_bind,hadd] at he
   have hr:(load ⟨bk,i,none⟩).run P w=.ok cells[i] w:=by simp [hcell]
   rw [hr] at he
   refine xQ bk cells f hc n (i+1) (acc.push cells[i]) _ (by omega) (fun ev' h'=>?_) ev he
   rw [events_load,hcell] at h'
   rcases Array.mem_push.1 h' with h' | rfl
   ·exact h ev' h'
   ·exact ⟨i,none,rfl⟩
theorem Way.load1 {t:TypeId} {x:Operand} {ad:Addr} {v:Value} (ho:ops[i]? = some o) (hg:o.guard=none) (hk:b.kind≠.early) (hop:o.op=.load t x) (hx:a.eval x=.pointer (some ad)) (hag:∀w,(isAgg t).run P w=.ok false w)
 (hb:Γ.ro ad.block∨O ad.block) (hc:w.cell? ad=some v)
 (k:Way P main Γ false Stop O (G (b.at (a.put o.dst v) (.inRegion ops rest :: kk)) cs) w):Way P main Γ false Stop O (G (b.at a (.inRegion ops (i :: rest) :: kk)) cs) w:=by
 refine .reads v ad.block ho (by unfold Region.wanted;rw [hg]) hk hb (qdN hc) (fun w₁ e=>?_) k
 have hc1:=(World.cell?_of_block e).trans hc
 have hx':(Act.eval a x)=.pointer (some ad):=hx
 constructor
 ·unfold execOp
  simp only [hop,hx']
  go_simp
 ·unfold execOp
  simp only [hop,hx']
  intro e he
  simp [go_sem, *] at he
  exact ⟨ad.off,ad.spot,he⟩
theorem Way.loadS {t e:TypeId} {x:Operand} {bk:Nat} {cells:Array Value} {f:Nat×Nat} (ho:ops[i]? = some o) (hg:o.guard=none) (hk:b.kind≠.early) (hop:o.op=.load t x) (hx:a.eval x=.pointer (some ⟨bk,0,none⟩))
 (hag:∀w,(isAgg t).run P w=.ok true w) (hsz:∀w,(sizeOf t).run P w=.ok cells.size w)
 (hb:Γ.ro bk∨O bk) (hc:w.heap[bk]? = some (.cells cells e f))
 (k:Way P main Γ false Stop O (G (b.at (a.put o.dst (.agg cells)) (.inRegion ops rest :: kk)) cs) w):Way P main Γ false Stop O (G (b.at a (.inRegion ops (i :: rest) :: kk)) cs) w:=by
 refine .reads (.agg cells) bk ho (by unfold Region.wanted;rw [hg]) hk hb (Array.getElem?_eq_some_iff.1 hc).1 (fun w₁ e=>?_) k
 have hc1:=e.trans hc
 have hx':(Act.eval a x)=.pointer (some ⟨bk,0,none⟩):=hx
 have hl:(loadCells ⟨bk,0,none⟩ cells.toList.length).run P w₁=.ok cells.toList.toArray w₁ :=
  run_loadCells_list (P:=P) w₁ ⟨bk,0,none⟩ cells.toList (fun j v hv=>by
   have hadd:(⟨bk,0,none⟩:Addr).add j=⟨bk,j,none⟩:=by unfold Addr.add;split <;> simp_all
   rw [hadd,cell_of_row w₁ bk j cells _ f hc1]
   simpa using hv)
 simp only [Array.length_toList,Array.toArray_toList,loadCells] at hl
 constructor
 ·unfold execOp
  simp only [hop,hx',Instr.loadAt,asAddr]
  simp [loadVar,Sem.run_bind,hag,hsz,hl,go_sem]
 ·unfold execOp
  simp only [hop,hx',Instr.loadAt,asAddr]
  intro e he
  simp [loadVar,Sem.events_bind,Sem.run_bind,hag,hsz,loadCells,go_sem] at he
  exact xQ (P:=P) bk cells f hc1 cells.size 0 #[] #[] (Nat.le_of_eq (Nat.zero_add _)) (fun e he=>by simp at he) e he
theorem Way.alloc {t:TypeId} {z:Value} (ho:ops[i]? = some o) (hg:o.guard=none) (hk:b.kind≠.early) (hop:o.op=.alloc t) (hz:∀w,(zeroValue t).run P w=.ok z w)
 (k:∀w₁,Ry Γ O w w₁→Way P main Γ false Stop (fun b=>O b∨b=w₁.heap.size) (G (b.at (a.put o.dst (.pointer (some ⟨w₁.heap.size,0,none⟩))) (.inRegion ops rest :: kk)) cs) (w₁.alloc (.cells z.cells t (0,0)))):Way P main Γ false Stop O (G (b.at a (.inRegion ops (i :: rest) :: kk)) cs) w :=
 .gen ho (by unfold Region.wanted;rw [hg]) hk fun w₁ h K hK=>by
  have hr:(execOp a.eval o).run P w₁=.ok (.value (.pointer (some ⟨w₁.heap.size,0,none⟩))) (w₁.alloc (.cells z.cells t (0,0))):=by
   unfold execOp
   simp only [hop]
   go_simp
  have he:(execOp a.eval o).events P w₁ #[]=#[]:=by
   unfold execOp
   simp only [hop]
   simp [go_sem,hz]
  rw [hr]
  refine hK _ _ ?_ ?_
  ·rw [listed_nil he];exact Gy.alloc _ (by simp)
  ·rw [jZ];exact k w₁ h
theorem Way.store1 {t:TypeId} {x y:Operand} {ad:Addr} {v:Int} {u:Value} (ho:ops[i]? = some o) (hg:o.guard=none) (hk:b.kind≠.early) (hop:o.op=.store t x y) (hx:a.eval x=.pointer (some ad)) (hy:a.eval y=.int .i64 v) (hsz:∀w,(sizeOf t).run P w=.ok 1 w)
 (hO:O ad.block) (hc:w.cell? ad=some u) (hz:∀w₁:World,w₁.heap[ad.block]? = w.heap[ad.block]?→w₁.frozen? ad=false)
 (k:∀w₁,Ry Γ O w w₁→Way P main Γ false Stop O (G (b.at (a.put o.dst undef) (.inRegion ops rest :: kk)) cs) (w₁.setCell ad (.int .i64 v))):Way P main Γ false Stop O (G (b.at a (.inRegion ops (i :: rest) :: kk)) cs) w :=
 .gen ho (by unfold Region.wanted;rw [hg]) hk fun w₁ h K hK=>by
  have hlt:=qdN hc
  have hb:=h.keep ad.block hlt (.inr hO)
  have hc1:=(World.cell?_of_block hb).trans hc
  have hz1:=hz w₁ hb
  have hr:(execOp a.eval o).run P w₁=.ok .skip (w₁.setCell ad (.int .i64 v)):=by
   unfold execOp
   simp only [hop,hx,hy]
   simp [go_sem,stored,hc1,hz1,hsz]
  have he:(execOp a.eval o).events P w₁ #[]=#[⟨.cell ad,true,false⟩]:=by
   unfold execOp
   simp only [hop,hx,hy]
   simp [go_sem,storedEv,hc1,hz1,hsz]
  rw [hr]
  refine hK _ _ (Gy.set hO fun e hm=>?_) ?_
  ·have:=mem_listed hm
   rw [he] at this
   simp at this
   subst this
   exact QK (.inr (.inl hO)) (Nat.lt_of_lt_of_le hlt h.size)
  ·rw [Zy];exact k w₁ h
theorem Way.store2 {t:TypeId} {x y:Operand} {bk:Nat} {v0 v1:Int} {u0 u1:Value} {e:TypeId} (ho:ops[i]? = some o) (hg:o.guard=none) (hk:b.kind≠.early) (hop:o.op=.store t x y) (hx:a.eval x=.pointer (some ⟨bk,0,none⟩)) (hy:a.eval y=.agg #[.int .i64 v0,.int .i64 v1]) (hsz:∀w,(sizeOf t).run P w=.ok 2 w)
 (hO:O bk) (hc:w.heap[bk]? = some (.cells #[u0,u1] e (0,0)))
 (k:∀w₁ w₂,Ry Γ O w w₁→Aside bk w₁ w₂→w₂.heap[bk]? = some (.cells #[.int .i64 v0,.int .i64 v1] e (0,0))→Way P main Γ false Stop O (G (b.at (a.put o.dst undef) (.inRegion ops rest :: kk)) cs) w₂):Way P main Γ false Stop O (G (b.at a (.inRegion ops (i :: rest) :: kk)) cs) w :=
 .gen ho (by unfold Region.wanted;rw [hg]) hk fun w₁ h K hK=>by
  have hlt:=(Array.getElem?_eq_some_iff.1 hc).1
  have hc1:=(h.keep bk hlt (.inr hO)).trans hc
  have c0:w₁.cell? ⟨bk,0,none⟩=some u0:=by simp [World.cell?,hc1]
  have z0:w₁.frozen? ⟨bk,0,none⟩=false:=by simp [World.frozen?,hc1]
  have hc2:(w₁.setCell ⟨bk,0,none⟩ (.int .i64 v0)).heap[bk]? = some (.cells #[.int .i64 v0,u1] e (0,0)):=by
   rw [setCell_eq_setRow w₁ bk 0 _ e (0,0) _ hc1,setRow_heap w₁ bk _ _ e _ hc1];rfl
  have c1:(w₁.setCell ⟨bk,0,none⟩ (.int .i64 v0)).cell? ⟨bk,1,none⟩=some u1:=by simp [World.cell?,hc2]
  have z1:(w₁.setCell ⟨bk,0,none⟩ (.int .i64 v0)).frozen? ⟨bk,1,none⟩=false:=by simp [World.frozen?,hc2]
  have hc3:((w₁.setCell ⟨bk,0,none⟩ (.int .i64 v0)).setCell ⟨bk,1,none⟩ (.int .i64 v1)).heap[bk]? = some (.cells #[.int .i64 v0,.int .i64 v1] e (0,0)):=by
   rw [setCell_eq_setRow _ bk 1 _ e (0,0) _ hc2,setRow_heap _ bk _ _ e _ hc2];rfl
  have ea:(⟨bk,0,none⟩:Addr).add 1=⟨bk,1,none⟩:=rfl
  have hr:(execOp a.eval o).run P w₁=.ok .skip ((w₁.setCell ⟨bk,0,none⟩ (.int .i64 v0)).setCell ⟨bk,1,none⟩ (.int .i64 v1)):=by
   unfold execOp
   simp only [hop,hx,hy]
   simp [go_sem,stored,c0,z0,c1,z1,hsz,ea]
  have he:(execOp a.eval o).events P w₁ #[]=#[⟨.cell ⟨bk,0,none⟩,true,false⟩,⟨.cell ⟨bk,1,none⟩,true,false⟩]:=by
   unfold execOp
   simp only [hop,hx,hy]
   simp [go_sem,stored,storedEv,c0,z0,c1,z1,hsz,ea]
  have hA:=(aside_setCell w₁ ⟨bk,0,none⟩ (.int .i64 v0)).trans (aside_setCell _ ⟨bk,1,none⟩ (.int .i64 v1))
  rw [hr]
  refine hK _ _ ⟨Nat.le_of_eq hA.size.symm,fun b _ hb=>hA.block b fun e=>hb (e▸hO),hA.tape,hA.os,hA.output,fun ev hm=>?_⟩ ?_
  ·have:=mem_listed hm
   rw [he] at this
   simp at this
   rw [hA.size]
   rcases this with rfl | rfl <;> exact QK (.inr (.inl hO)) (Nat.lt_of_lt_of_le hlt h.size)
  ·rw [yn hA.size];exact k w₁ _ h hA hc3
theorem Way.enter {f:FuncId} {fn:Func} {args:Array Operand} {ats:Array TypeId} (ho:ops[i]? = some o) (hw:Region.wanted o (yielded ops a.tmps)=true) (hk:b.kind≠.early) (hop:o.op=.call { callee:=.value (.func f),args,argTypes:=ats })
 (hf:P.funcs[f]? = some fn) (hname:(fn.name == "runtime.NumGoroutine")=false) (hb:fn.body.isNone=false)
 (k:Way P main Γ false Stop O (G (Frame.enter P f (args.map a.eval) .normal) (b.at a (.inRegion ops (i :: rest) :: kk) :: cs)) w):Way P main Γ false Stop O (G (b.at a (.inRegion ops (i :: rest) :: kk)) cs) w :=
 .ctl rfl (fun w=>by
  rw [stepG_enter ho hw hk (run_call_body hop hf hname hb)]
  have:listed P b.fn a o w=#[]:=by unfold listed;rw [events_call_body hop hf hname hb];exact seen_none P _
  rw [this]) k
end
theorem lin_cons {md:Region.Mode} {ops:Array Oper} {l:Array Bool} (fuel t:Nat) (h:Region.ready md ops l≠[]) :
 ∃i t',i∈Region.ready md ops l∧Region.linearise.go md ops (fuel+1) t l []=i :: Region.linearise.go md ops fuel t' (l.setIfInBounds i true) []:=by
 have hlt:t % (Region.ready md ops l).length < (Region.ready md ops l).length:=Nat.mod_lt _ (List.length_pos_iff.2 h)
 obtain ⟨i,hi⟩:∃i,(Region.ready md ops l)[t % (Region.ready md ops l).length]? = some i:=⟨_,List.getElem?_eq_getElem hlt⟩
 refine ⟨i,t / (Region.ready md ops l).length,List.mem_of_getElem? hi,?_⟩
 rw [Region.linearise.go]
 change (match (Region.ready md ops l)[t % (Region.ready md ops l).length]? with
  | some i=>Region.linearise.go md ops fuel (t / (Region.ready md ops l).length) (l.setIfInBounds i true) [i]
  | none=>[].reverse)=_
 rw [hi]
 simp only []
 rw [linearise_go_acc,List.reverse_singleton,List.singleton_append]
end Go.Fan
end
section
namespace Go.Proofs.Tryz
open Go Go.Conc Go.Fan
open Go.ConcN (upd)
noncomputable def Zl:Code:=Tryz.f15.body.getD .skip
noncomputable def Qp:Code:=match Zl with | .seq _ (.seq _ (.seq _ (.seq _ (.seq _ c))))=>c | _=>.skip
noncomputable def nA:Code:=match Qp with | .seq a _=>a | _=>.skip
noncomputable def nTl:Code:=match Qp with | .seq _ a=>a | _=>.skip
noncomputable def nL1:Code:=match nA with | .seq _ (.block _ (.loop c))=>c | _=>.skip
noncomputable def nX:Code:=match nL1 with | .seq _ (.seq _ (.seq (.block _ c) _))=>c | _=>.skip
noncomputable def nB:Code:=match nTl with | .seq _ (.seq _ (.seq c _))=>c | _=>.skip
noncomputable def nE:Code:=match nTl with | .seq _ (.seq _ (.seq _ c))=>c | _=>.skip
noncomputable def nL2:Code:=match nB with | .seq _ (.block _ (.loop c))=>c | _=>.skip
noncomputable def nY:Code:=match nL2 with | .seq _ (.seq _ (.block _ c))=>c | _=>.skip
def opsOf:Code→Array Oper
 | .region _ ops _=>ops
 | _=>#[]
noncomputable def nO6:Array Oper:=match nA with | .seq c _=>opsOf c | _=>#[]
noncomputable def nO7:Array Oper:=match nL1 with | .seq c _=>opsOf c | _=>#[]
noncomputable def nO8:Array Oper:=match nX with | .seq c _=>opsOf c | _=>#[]
noncomputable def nO9:Array Oper:=match nX with | .seq _ (.seq c _)=>opsOf c | _=>#[]
noncomputable def nO10:Array Oper:=match nX with | .seq _ (.seq _ c)=>opsOf c | _=>#[]
noncomputable def nO11:Array Oper:=match nL1 with | .seq _ (.seq _ (.seq _ c))=>opsOf c | _=>#[]
noncomputable def nO12:Array Oper:=match nTl with | .seq c _=>opsOf c | _=>#[]
noncomputable def nO13:Array Oper:=match nTl with | .seq _ (.seq c _)=>opsOf c | _=>#[]
noncomputable def nO14:Array Oper:=match nB with | .seq c _=>opsOf c | _=>#[]
noncomputable def nO15:Array Oper:=match nL2 with | .seq c _=>opsOf c | _=>#[]
noncomputable def nO16:Array Oper:=match nY with | .seq c _=>opsOf c | _=>#[]
noncomputable def nO17:Array Oper:=match nY with | .seq _ c=>opsOf c | _=>#[]
noncomputable def nO18:Array Oper:=match nE with | .seq c _=>opsOf c | _=>#[]
theorem n_tail5:Qp=.seq nA nTl:=by kernel_rfl
theorem n_A:nA=.seq (.region 6 nO6 false) (.block 0 (.loop nL1)):=by kernel_rfl
theorem n_L1:nL1=.seq (.region 7 nO7 false) (.seq (.cond (.tmp 22) .skip (.exit 0)) (.seq (.block 1 nX) (.region 11 nO11 false))):=by kernel_rfl
theorem n_X:nX=.seq (.region 8 nO8 false) (.seq (.region 9 nO9 false) (.region 10 nO10 false)):=by kernel_rfl
theorem n_Tl:nTl=.seq (.region 12 nO12 false) (.seq (.region 13 nO13 false) (.seq nB nE)):=by kernel_rfl
theorem n_B:nB=.seq (.region 14 nO14 false) (.block 2 (.loop nL2)):=by kernel_rfl
theorem n_L2:nL2=.seq (.region 15 nO15 false) (.seq (.cond (.tmp 34) .skip (.exit 2)) (.block 3 nY)):=by kernel_rfl
theorem n_Y:nY=.seq (.region 16 nO16 false) (.region 17 nO17 false):=by kernel_rfl
theorem n_E:nE=.seq (.region 18 nO18 false) .ret:=by kernel_rfl
noncomputable def nO (r k:Nat):Oper:=((match r with | 6=>nO6 | 7=>nO7 | 8=>nO8 | 9=>nO9 | 10=>nO10 | 11=>nO11 | 12=>nO12 | 13=>nO13 | 14=>nO14 | 15=>nO15 | 16=>nO16 | 17=>nO17 | _=>nO18)[k]?).getD default
theorem n_size6:nO6.size=4:=by kernel_rfl
theorem n_at6_0:nO6[0]? = some (nO 6 0):=by kernel_rfl
theorem n_g6_0:(nO 6 0).guard=none:=by kernel_rfl
theorem n_d6_0:(nO 6 0).dst=some 18:=by kernel_rfl
theorem n_op6_0:(nO 6 0).op=.fieldAddr 26 (.tmp 1) 3:=by kernel_rfl
theorem n_at6_1:nO6[1]? = some (nO 6 1):=by kernel_rfl
theorem n_g6_1:(nO 6 1).guard=none:=by kernel_rfl
theorem n_d6_1:(nO 6 1).dst=some 19:=by kernel_rfl
theorem n_op6_1:(nO 6 1).op=.load 24 (.tmp 18):=by kernel_rfl
theorem n_at6_2:nO6[2]? = some (nO 6 2):=by kernel_rfl
theorem n_g6_2:(nO 6 2).guard=none:=by kernel_rfl
theorem n_d6_2:(nO 6 2).dst=some 20:=by kernel_rfl
theorem n_op6_2:(nO 6 2).op=.call { callee:=.builtin .len,args:=#[.tmp 19],argTypes:=#[24] }:=by kernel_rfl
theorem n_at6_3:nO6[3]? = some (nO 6 3):=by kernel_rfl
theorem n_g6_3:(nO 6 3).guard=none:=by kernel_rfl
theorem n_d6_3:(nO 6 3).dst=some 21:=by kernel_rfl
theorem n_op6_3:(nO 6 3).op=.move (.const (.int .i64 0)):=by kernel_rfl
theorem qeL:nO7.size=1:=by kernel_rfl
theorem qeG:nO7[0]? = some (nO 7 0):=by kernel_rfl
theorem n_g7_0:(nO 7 0).guard=none:=by kernel_rfl
theorem n_d7_0:(nO 7 0).dst=some 22:=by kernel_rfl
theorem n_op7_0:(nO 7 0).op=.binOp .lss 3 (.tmp 21) (.tmp 20) 3:=by kernel_rfl
theorem n_size8:nO8.size=3:=by kernel_rfl
theorem n_at8_0:nO8[0]? = some (nO 8 0):=by kernel_rfl
theorem n_g8_0:(nO 8 0).guard=none:=by kernel_rfl
theorem n_d8_0:(nO 8 0).dst=some 23:=by kernel_rfl
theorem n_op8_0:(nO 8 0).op=.move (.tmp 21):=by kernel_rfl
theorem n_at8_1:nO8[1]? = some (nO 8 1):=by kernel_rfl
theorem n_g8_1:(nO 8 1).guard=none:=by kernel_rfl
theorem n_d8_1:(nO 8 1).dst=some 7:=by kernel_rfl
theorem n_op8_1:(nO 8 1).op=.alloc 3:=by kernel_rfl
theorem n_at8_2:nO8[2]? = some (nO 8 2):=by kernel_rfl
theorem n_g8_2:(nO 8 2).guard=none:=by kernel_rfl
theorem n_d8_2:(nO 8 2).dst=none:=by kernel_rfl
theorem n_op8_2:(nO 8 2).op=.store 3 (.tmp 7) (.tmp 23):=by kernel_rfl
theorem n_size9:nO9.size=1:=by kernel_rfl
theorem qeH:nO9[0]? = some (nO 9 0):=by kernel_rfl
theorem n_g9_0:(nO 9 0).guard=none:=by kernel_rfl
theorem n_d9_0:(nO 9 0).dst=some 24:=by kernel_rfl
theorem n_op9_0:(nO 9 0).op=.call { callee:=.value (.func 59),args:=#[.tmp 6,.const (.int .i64 1)],argTypes:=#[97,3] }:=by kernel_rfl
theorem n_size10:nO10.size=2:=by kernel_rfl
theorem n_at10_0:nO10[0]? = some (nO 10 0):=by kernel_rfl
theorem n_g10_0:(nO 10 0).guard=none:=by kernel_rfl
theorem n_d10_0:(nO 10 0).dst=some 25:=by kernel_rfl
theorem n_op10_0:(nO 10 0).op=.makeFunc (.func 60) #[] #[.tmp 6,.tmp 5,.tmp 7,.tmp 4]:=by kernel_rfl
theorem n_at10_1:nO10[1]? = some (nO 10 1):=by kernel_rfl
theorem n_g10_1:(nO 10 1).guard=none:=by kernel_rfl
theorem n_d10_1:(nO 10 1).dst=none:=by kernel_rfl
theorem n_op10_1:(nO 10 1).op=.go { callee:=.value (.tmp 25),args:=#[],argTypes:=#[] }:=by kernel_rfl
theorem n_size11:nO11.size=2:=by kernel_rfl
theorem n_at11_0:nO11[0]? = some (nO 11 0):=by kernel_rfl
theorem n_g11_0:(nO 11 0).guard=none:=by kernel_rfl
theorem n_d11_0:(nO 11 0).dst=some 26:=by kernel_rfl
theorem n_op11_0:(nO 11 0).op=.binOp .add 3 (.tmp 21) (.const (.int .i64 1)) 3:=by kernel_rfl
theorem n_at11_1:nO11[1]? = some (nO 11 1):=by kernel_rfl
theorem n_g11_1:(nO 11 1).guard=none:=by kernel_rfl
theorem n_d11_1:(nO 11 1).dst=some 21:=by kernel_rfl
theorem n_op11_1:(nO 11 1).op=.move (.tmp 26):=by kernel_rfl
theorem n_size12:nO12.size=2:=by kernel_rfl
theorem n_at12_0:nO12[0]? = some (nO 12 0):=by kernel_rfl
theorem n_g12_0:(nO 12 0).guard=none:=by kernel_rfl
theorem n_d12_0:(nO 12 0).dst=some 27:=by kernel_rfl
theorem n_op12_0:(nO 12 0).op=.makeFunc (.func 63) #[] #[.tmp 6,.tmp 5]:=by kernel_rfl
theorem n_at12_1:nO12[1]? = some (nO 12 1):=by kernel_rfl
theorem n_g12_1:(nO 12 1).guard=none:=by kernel_rfl
theorem n_d12_1:(nO 12 1).dst=none:=by kernel_rfl
theorem n_op12_1:(nO 12 1).op=.go { callee:=.value (.tmp 27),args:=#[],argTypes:=#[] }:=by kernel_rfl
theorem n_size13:nO13.size=5:=by kernel_rfl
theorem n_at13_0:nO13[0]? = some (nO 13 0):=by kernel_rfl
theorem n_g13_0:(nO 13 0).guard=none:=by kernel_rfl
theorem n_d13_0:(nO 13 0).dst=some 28:=by kernel_rfl
theorem n_op13_0:(nO 13 0).op=.fieldAddr 26 (.tmp 1) 3:=by kernel_rfl
theorem n_at13_1:nO13[1]? = some (nO 13 1):=by kernel_rfl
theorem n_g13_1:(nO 13 1).guard=none:=by kernel_rfl
theorem n_d13_1:(nO 13 1).dst=some 29:=by kernel_rfl
theorem n_op13_1:(nO 13 1).op=.load 24 (.tmp 28):=by kernel_rfl
theorem n_at13_2:nO13[2]? = some (nO 13 2):=by kernel_rfl
theorem n_g13_2:(nO 13 2).guard=none:=by kernel_rfl
theorem n_d13_2:(nO 13 2).dst=some 30:=by kernel_rfl
theorem n_op13_2:(nO 13 2).op=.call { callee:=.builtin .len,args:=#[.tmp 29],argTypes:=#[24] }:=by kernel_rfl
theorem n_at13_3:nO13[3]? = some (nO 13 3):=by kernel_rfl
theorem n_g13_3:(nO 13 3).guard=none:=by kernel_rfl
theorem n_d13_3:(nO 13 3).dst=some 31:=by kernel_rfl
theorem n_op13_3:(nO 13 3).op=.makeSlice 33 (.tmp 30) (.tmp 30):=by kernel_rfl
theorem n_at13_4:nO13[4]? = some (nO 13 4):=by kernel_rfl
theorem n_g13_4:(nO 13 4).guard=none:=by kernel_rfl
theorem n_d13_4:(nO 13 4).dst=some 2:=by kernel_rfl
theorem n_op13_4:(nO 13 4).op=.assign (.tmp 31):=by kernel_rfl
theorem n_size14:nO14.size=1:=by kernel_rfl
theorem n_at14_0:nO14[0]? = some (nO 14 0):=by kernel_rfl
theorem n_g14_0:(nO 14 0).guard=none:=by kernel_rfl
theorem n_d14_0:(nO 14 0).dst=some 32:=by kernel_rfl
theorem n_op14_0:(nO 14 0).op=.load 87 (.tmp 5):=by kernel_rfl
theorem qcd:nO15.size=2:=by kernel_rfl
theorem Jd:nO15[0]? = some (nO 15 0):=by kernel_rfl
theorem n_g15_0:(nO 15 0).guard=none:=by kernel_rfl
theorem qeI:(nO 15 0).dst=some 33:=by kernel_rfl
theorem n_op15_0:(nO 15 0).op=.recv 87 (.tmp 32) true:=by kernel_rfl
theorem qcc:nO15[1]? = some (nO 15 1):=by kernel_rfl
theorem qeK:(nO 15 1).guard=none:=by kernel_rfl
theorem qeJ:(nO 15 1).dst=some 34:=by kernel_rfl
theorem n_op15_1:(nO 15 1).op=.extract (.tmp 33) 1:=by kernel_rfl
theorem n_size16:nO16.size=3:=by kernel_rfl
theorem n_at16_0:nO16[0]? = some (nO 16 0):=by kernel_rfl
theorem n_g16_0:(nO 16 0).guard=none:=by kernel_rfl
theorem n_d16_0:(nO 16 0).dst=some 35:=by kernel_rfl
theorem n_op16_0:(nO 16 0).op=.extract (.tmp 33) 0:=by kernel_rfl
theorem n_at16_1:nO16[1]? = some (nO 16 1):=by kernel_rfl
theorem n_g16_1:(nO 16 1).guard=none:=by kernel_rfl
theorem n_d16_1:(nO 16 1).dst=some 8:=by kernel_rfl
theorem n_op16_1:(nO 16 1).op=.alloc 101:=by kernel_rfl
theorem n_at16_2:nO16[2]? = some (nO 16 2):=by kernel_rfl
theorem n_g16_2:(nO 16 2).guard=none:=by kernel_rfl
theorem n_d16_2:(nO 16 2).dst=none:=by kernel_rfl
theorem n_op16_2:(nO 16 2).op=.store 101 (.tmp 8) (.tmp 35):=by kernel_rfl
theorem n_size17:nO17.size=7:=by kernel_rfl
theorem n_at17_0:nO17[0]? = some (nO 17 0):=by kernel_rfl
theorem n_g17_0:(nO 17 0).guard=none:=by kernel_rfl
theorem n_d17_0:(nO 17 0).dst=some 36:=by kernel_rfl
theorem n_op17_0:(nO 17 0).op=.move (.tmp 2):=by kernel_rfl
theorem n_at17_1:nO17[1]? = some (nO 17 1):=by kernel_rfl
theorem n_g17_1:(nO 17 1).guard=none:=by kernel_rfl
theorem n_d17_1:(nO 17 1).dst=some 37:=by kernel_rfl
theorem n_op17_1:(nO 17 1).op=.fieldAddr 101 (.tmp 8) 0:=by kernel_rfl
theorem n_at17_2:nO17[2]? = some (nO 17 2):=by kernel_rfl
theorem n_g17_2:(nO 17 2).guard=none:=by kernel_rfl
theorem n_d17_2:(nO 17 2).dst=some 38:=by kernel_rfl
theorem n_op17_2:(nO 17 2).op=.load 3 (.tmp 37):=by kernel_rfl
theorem n_at17_3:nO17[3]? = some (nO 17 3):=by kernel_rfl
theorem n_g17_3:(nO 17 3).guard=none:=by kernel_rfl
theorem n_d17_3:(nO 17 3).dst=some 39:=by kernel_rfl
theorem n_op17_3:(nO 17 3).op=.fieldAddr 101 (.tmp 8) 1:=by kernel_rfl
theorem n_at17_4:nO17[4]? = some (nO 17 4):=by kernel_rfl
theorem n_g17_4:(nO 17 4).guard=none:=by kernel_rfl
theorem n_d17_4:(nO 17 4).dst=some 40:=by kernel_rfl
theorem n_op17_4:(nO 17 4).op=.load 3 (.tmp 39):=by kernel_rfl
theorem n_at17_5:nO17[5]? = some (nO 17 5):=by kernel_rfl
theorem n_g17_5:(nO 17 5).guard=none:=by kernel_rfl
theorem n_d17_5:(nO 17 5).dst=some 41:=by kernel_rfl
theorem n_op17_5:(nO 17 5).op=.indexAddr 33 (.tmp 36) (.tmp 38):=by kernel_rfl
theorem n_at17_6:nO17[6]? = some (nO 17 6):=by kernel_rfl
theorem n_g17_6:(nO 17 6).guard=none:=by kernel_rfl
theorem n_d17_6:(nO 17 6).dst=none:=by kernel_rfl
theorem n_op17_6:(nO 17 6).op=.store 3 (.tmp 41) (.tmp 40):=by kernel_rfl
theorem n_size18:nO18.size=3:=by kernel_rfl
theorem n_at18_0:nO18[0]? = some (nO 18 0):=by kernel_rfl
theorem n_g18_0:(nO 18 0).guard=none:=by kernel_rfl
theorem n_d18_0:(nO 18 0).dst=some 42:=by kernel_rfl
theorem n_op18_0:(nO 18 0).op=.move (.tmp 2):=by kernel_rfl
theorem n_at18_1:nO18[1]? = some (nO 18 1):=by kernel_rfl
theorem n_g18_1:(nO 18 1).guard=none:=by kernel_rfl
theorem n_d18_1:(nO 18 1).dst=some 2:=by kernel_rfl
theorem n_op18_1:(nO 18 1).op=.assign (.tmp 42):=by kernel_rfl
theorem n_at18_2:nO18[2]? = some (nO 18 2):=by kernel_rfl
theorem n_g18_2:(nO 18 2).guard=none:=by kernel_rfl
theorem n_d18_2:(nO 18 2).dst=some 3:=by kernel_rfl
theorem n_op18_2:(nO 18 2).op=.assign (.const (.int .i64 0)):=by kernel_rfl
def XA:Value→Array Value
 | .agg xs=>xs
 | _=>#[]
def nT (v:Nat→Value):Array Value:=Array.ofFn (n:=43) (fun i=>v i.1) ++ XA (v 43)
def entN (xs:Array Value) (k:Nat):Value:=if k < 43 then xs.getD k undef else .agg (xs.extract 43 xs.size)
section
variable {v:Nat→Value} {ds:List Deferred} {k:Nat} {x:Value}
theorem qcf {n:Nat} {f:Nat→Value} (hk:k < n):(Array.ofFn (n:=n) fun i=>f i.1).setIfInBounds k x=Array.ofFn (n:=n) fun i=>upd f k x i.1:=by
 apply Array.ext (by simp)
 intro i h1 h2
 rw [Array.getElem_setIfInBounds (by simpa using h2)]
 by_cases h:k=i
 ·subst h;simp [upd]
 ·simp [h,upd,Ne.symm h]
theorem yc (hk:k < 43):Go.Act.put ⟨nT v,ds⟩ (some k) x=⟨nT (upd v k x),ds⟩:=by
 have e:(nT v).setIfInBounds k x=nT (upd v k x):=by
  unfold nT
  rw [Go.ConcN.upd_ne _ _ (show (43:Nat)≠k by omega),← qcf hk]
  exact Array.setIfInBounds_append_left (by simpa using hk)
 rw [← e];rfl
theorem QA:Go.Act.put ⟨nT v,ds⟩ none x=⟨nT v,ds⟩:=rfl
theorem qeF (hk:k < 43):(nT v).getD k undef=v k:=by
 simp [nT,Array.getD,hk,Nat.lt_of_lt_of_le hk (Nat.le_add_right 43 _)]
theorem ql (hk:k < 43):Go.Act.eval ⟨nT v,ds⟩ (.tmp k)=v k:=qeF hk
theorem nT_ent (xs:Array Value):xs ++ Array.replicate (43 - xs.size) undef=nT (entN xs):=by
 have hs:(nT (entN xs)).size=43+(xs.size - 43):=by simp [nT,entN,XA]
 apply Array.ext
 ·rw [hs];simp;omega
 ·intro i h1 h2
  by_cases h:i < 43
  ·simp [nT,entN,Array.getElem_append,h,Array.getD]
  ·have hx:i < xs.size:=by simp at h1;omega
   simp only [nT,entN,XA,Array.getElem_append,hx,Array.size_ofFn,h,dif_pos,dif_neg,not_false_iff]
   simp only [Nat.lt_irrefl,if_false,Array.getElem_extract]
   congr 1;omega
end
end Go.Proofs.Tryz
end
section
namespace Go.Proofs.Tryz
open Go Go.Conc Go.Fan
open Go.ConcN (upd)
def Yl (ev:Operand→Value) (o:Oper) (v:Value):Prop:=∀w,(execOp ev o).run Tryz.prog w=.ok (.value v) w∧(execOp ev o).events Tryz.prog w #[]=#[]
section
variable {ev:Operand→Value} {bb cb xb ib wg n cap i:Nat} {ga:Option Addr} {x y:Value} {a b:Int}
theorem y6_0 (h:ev (.tmp 1)=.pointer (some ⟨bb,0,none⟩)):Yl ev (nO 6 0) (.pointer (some ⟨bb,4,none⟩)):=fun w=>by
 unfold execOp;rw [n_op6_0];simp only [h];constructor
 ·go_simp
 ·simp [go_sem]
theorem y6_2 (h:ev (.tmp 19)=.slice ga n cap):Yl ev (nO 6 2) (.int .i64 n):=fun w=>by
 unfold execOp;rw [n_op6_2];constructor
 ·go_simp
 ·simp [go_sem,h]
theorem y6_3 (h:ev (.const (.int .i64 0))=.int .i64 0):Yl ev (nO 6 3) (.int .i64 0):=fun w=>by
 unfold execOp;rw [n_op6_3];simp only [h];constructor
 ·go_simp
 ·simp [go_sem]
theorem y7_0 (h:ev (.tmp 21)=.int .i64 a) (h':ev (.tmp 20)=.int .i64 b):Yl ev (nO 7 0) (.bool (decide (a < b))):=fun w=>by
 unfold execOp;rw [n_op7_0];simp only [h,h'];constructor
 ·go_simp
 ·simp [go_sem]
theorem y8_0 (h:ev (.tmp 21)=x):Yl ev (nO 8 0) x:=fun w=>by
 unfold execOp;rw [n_op8_0];simp only [h];constructor
 ·go_simp
 ·simp [go_sem]
theorem y10_0 (h1:ev (.tmp 6)=.pointer (some ⟨wg,0,none⟩)) (h2:ev (.tmp 5)=.pointer (some ⟨cb,0,none⟩)) (h3:ev (.tmp 7)=.pointer (some ⟨ib,0,none⟩)) (h4:ev (.tmp 4)=.pointer (some ⟨xb,0,none⟩)) :
 Yl ev (nO 10 0) (.func (.func 60) #[] #[.pointer (some ⟨wg,0,none⟩),.pointer (some ⟨cb,0,none⟩),.pointer (some ⟨ib,0,none⟩),.pointer (some ⟨xb,0,none⟩)]):=fun w=>by
 unfold execOp;rw [n_op10_0];constructor
 ·go_simp
 ·simp [go_sem]
theorem y11_0 (h:ev (.tmp 21)=.int .i64 a) (h':ev (.const (.int .i64 1))=.int .i64 1) (hw:IntKind.i64.wrap (a+1)=a+1):Yl ev (nO 11 0) (.int .i64 (a+1)):=fun w=>by
 unfold execOp;rw [n_op11_0];simp only [h,h'];constructor
 ·go_simp
 ·simp [go_sem]
theorem y11_1 (h:ev (.tmp 26)=x):Yl ev (nO 11 1) x:=fun w=>by
 unfold execOp;rw [n_op11_1];simp only [h];constructor
 ·go_simp
 ·simp [go_sem]
theorem y12_0 (h1:ev (.tmp 6)=.pointer (some ⟨wg,0,none⟩)) (h2:ev (.tmp 5)=.pointer (some ⟨cb,0,none⟩)) :
 Yl ev (nO 12 0) (.func (.func 63) #[] #[.pointer (some ⟨wg,0,none⟩),.pointer (some ⟨cb,0,none⟩)]):=fun w=>by
 unfold execOp;rw [n_op12_0];constructor
 ·go_simp
 ·simp [go_sem]
theorem y13_0 (h:ev (.tmp 1)=.pointer (some ⟨bb,0,none⟩)):Yl ev (nO 13 0) (.pointer (some ⟨bb,4,none⟩)):=fun w=>by
 unfold execOp;rw [n_op13_0];simp only [h];constructor
 ·go_simp
 ·simp [go_sem]
theorem y13_2 (h:ev (.tmp 29)=.slice ga n cap):Yl ev (nO 13 2) (.int .i64 n):=fun w=>by
 unfold execOp;rw [n_op13_2];constructor
 ·go_simp
 ·simp [go_sem,h]
theorem y13_4 (h:ev (.tmp 31)=x):Yl ev (nO 13 4) x:=fun w=>by
 unfold execOp;rw [n_op13_4];simp only [h];constructor
 ·go_simp
 ·simp [go_sem]
theorem y15_1 (h:ev (.tmp 33)=.tuple #[x,y]):Yl ev (nO 15 1) y:=fun w=>by
 unfold execOp;rw [n_op15_1];simp only [h];constructor
 ·go_simp
 ·simp [go_sem]
theorem y16_0 (h:ev (.tmp 33)=.tuple #[x,y]):Yl ev (nO 16 0) x:=fun w=>by
 unfold execOp;rw [n_op16_0];simp only [h];constructor
 ·go_simp
 ·simp [go_sem]
theorem y17_0 (h:ev (.tmp 2)=x):Yl ev (nO 17 0) x:=fun w=>by
 unfold execOp;rw [n_op17_0];simp only [h];constructor
 ·go_simp
 ·simp [go_sem]
theorem y17_1 (h:ev (.tmp 8)=.pointer (some ⟨bb,0,none⟩)):Yl ev (nO 17 1) (.pointer (some ⟨bb,0,none⟩)):=fun w=>by
 unfold execOp;rw [n_op17_1];simp only [h];constructor
 ·go_simp
 ·simp [go_sem]
theorem y17_3 (h:ev (.tmp 8)=.pointer (some ⟨bb,0,none⟩)):Yl ev (nO 17 3) (.pointer (some ⟨bb,1,none⟩)):=fun w=>by
 unfold execOp;rw [n_op17_3];simp only [h];constructor
 ·go_simp
 ·simp [go_sem]
theorem y17_5 (h:ev (.tmp 36)=.slice (some ⟨bb,0,none⟩) n n) (h':ev (.tmp 38)=.int .i64 i) (hi:i < n):Yl ev (nO 17 5) (.pointer (some ⟨bb,i,none⟩)):=fun w=>by
 unfold execOp;rw [n_op17_5];simp only [h,h'];constructor
 ·go_simp
 ·have e:=events_indexAt_slice (P:=Tryz.prog) (w:=w) (es:=#[]) 33 ⟨bb,0,none⟩ n n .i64 (i:Int) (by kernel_rfl) ⟨by omega,by omega⟩
  simp [go_sem,e]
theorem y18_0 (h:ev (.tmp 2)=x):Yl ev (nO 18 0) x:=fun w=>by
 unfold execOp;rw [n_op18_0];simp only [h];constructor
 ·go_simp
 ·simp [go_sem]
theorem y18_1 (h:ev (.tmp 42)=x):Yl ev (nO 18 1) x:=fun w=>by
 unfold execOp;rw [n_op18_1];simp only [h];constructor
 ·go_simp
 ·simp [go_sem]
theorem y18_2 (h:ev (.const (.int .i64 0))=x):Yl ev (nO 18 2) x:=fun w=>by
 unfold execOp;rw [n_op18_2];simp only [h];constructor
 ·go_simp
 ·simp [go_sem]
end
end Go.Proofs.Tryz
end
section
namespace Go.Fan
open Go Go.Conc Go.ConcN Go.Sim
open Go.ConcR (stA)
structure MW (K:Cfg) (Γ:Ge) (g:Nat→Bool) (R:Nat→Nat→Prop) (O:Nat→Prop) (w w':World):Prop where
 w0:W0 K R w w'
 nd:ym w
 glob:∀n,g n=true→R n n
 rng:∀b c,R b c→(Γ.ro c∧K.Fz b)∨O c
 base:∀b,Γ.ro b→b < w'.heap.size
section
variable {P' P:Program} {K:Cfg} {Γ:Ge} {c g:Nat→Bool} {bs:List Frame} {Fin:Goroutine→World→Prop} {main qt:Bool}
theorem MW.rely {R:Nat→Nat→Prop} {O:Nat→Prop} {w w' w₁:World} (h:MW K Γ g R O w w') (hr:Ry Γ O w' w₁):MW K Γ g R O w w₁:=by
 have key:∀b c,R b c→w₁.heap[c]? = w'.heap[c]? := fun b c hbc=>by
  obtain ⟨_,o',_,h2,_⟩:=h.w0.obj b c hbc
  refine hr.keep c (Array.getElem?_eq_some_iff.1 h2).1 ?_
  rcases h.rng b c hbc with x | x
  ·exact .inl x.1
  ·exact .inr x
 refine ⟨⟨h.w0.fn,h.w0.inj,fun b c hbc=>?_,h.w0.fz,h.w0.glob,h.w0.big,Nat.le_trans h.w0.big' hr.size⟩,h.nd,h.glob,h.rng,fun b hb=>Nat.lt_of_lt_of_le (h.base b hb) hr.size⟩
 obtain ⟨o,o',h1,h2,h3⟩:=h.w0.obj b c hbc
 exact ⟨o,o',h1,(key b c hbc).trans h2,h3⟩
def AtLeave (K:Cfg) (P' P:Program) (Γ:Ge) (g:Nat→Bool) (bs:List Frame) (Fin:Goroutine→World→Prop) (R₀:Nat→Nat→Prop) (B:Nat) (O:Nat→Prop) (a:Goroutine) (w':World):Prop :=
 ∃q w R,Sim.Leaves q∧(∀x,Fin q (w.tp x))∧GR K P' P (.lone bs) R q a∧MW K Γ g R O w w'∧(∀b c,R₀ b c→R b c)∧∀b c,R b c→R₀ b c∨B≤b
theorem qfW (Z:Cov K P' P c g (fun _=>False)) (R₀:Nat→Nat→Prop) (B:Nat) {q:Goroutine} {w:World} (hT:LT P' true Fin q w):∀(R:Nat→Nat→Prop) (O:Nat→Prop) (a:Goroutine) (w':World),GR K P' P (.lone bs) R q a→MW K Γ g R O w w'→B≤w.heap.size→(∀b c,R₀ b c→R b c)→(∀b c,R b c→R₀ b c∨B≤b) →
 Way P main Γ false (AtLeave K P' P Γ g bs Fin R₀ B) O a w':=by
 induction hT with
 | @fin q w hl hf =>
   intro R O a w' hG hM _ hR hR'
   exact .stop fun w₁ hr=>⟨q,w,R,hl,hf,hG,hM.rely hr,hR,hR'⟩
 | @step q w hl nx h1 h2 ih =>
   intro R O a w' hG hM hB hR hR'
   have hrun:a.status=.running:=by cases hG;rfl
   refine .step hrun fun w₁ hr=>?_
   have hM1:=hM.rely hr
   let τ:Nat→Question→Nat:=fun n z=>w₁.tape (w₁.drawn+(n - w.drawn)) z
   obtain ⟨es,hs,hnb⟩:=h1 τ
   have hwr:WR (K.at (nx τ).2.drawn) R (w.tp τ) w₁:=W0.wr (⟨hM1.w0.fn,hM1.w0.inj,hM1.w0.obj,hM1.w0.fz,hM1.w0.glob,hM1.w0.big,hM1.w0.big'⟩:W0 K R (w.tp τ) w₁) _ fun j z _=>by
    show w₁.tape (w₁.drawn+j) z=w₁.tape (w₁.drawn+(w.drawn+j - w.drawn)) z
    rw [Nat.add_sub_cancel_left]
   obtain ⟨hn1,hst1⟩:=jV (m':=main) (Z.at _) (show ym (w.tp τ) from hM.nd) hwr hM.glob (hG.at _) hl hs rfl
   rcases hst1 with hb | ⟨R1,a1,w1',es',e,hg1,hw1,hx1,hv1⟩
   ·exact absurd hb hnb
   rw [e,goes_go]
   have hX:Ext K R R1 (w.tp τ) w₁ (nx τ).2 w1':=hx1.un
   have hrng:∀b c,R1 b c→(Γ.ro c∧K.Fz b)∨grow O w₁ w1' c:=fun b c hbc=>by
    rcases hX.new b c hbc with x | ⟨_,x⟩
    ·exact (hM1.rng b c x).imp id .inl
    ·obtain ⟨_,o',_,h2,_⟩:=hw1.obj b c hbc
     exact .inr (.inr ⟨x,(Array.getElem?_eq_some_iff.1 h2).1⟩)
   refine ⟨⟨⟨hX.size',fun b hb hn=>hX.stay b hb fun b' hbb=>?_,hX.tp',hX.os',hX.out',fun ev hev=>?_⟩,fun x=>by cases x⟩,?_⟩
   ·rcases hM1.rng b' b hbb with x | x
    ·exact x.2
    ·exact absurd x hn
   ·
    have hlow:∀b c,R1 b c→c < w1'.heap.size:=fun b c hbc=>by
     obtain ⟨_,o',_,h2,_⟩:=hw1.obj b c hbc
     exact (Array.getElem?_eq_some_iff.1 h2).1
    have hb3:∀b c (wr:Bool),R1 b c→(wr=true→¬ K.Fz b)→(Γ.ro c∧wr=false)∨O c∨w₁.heap.size≤c:=fun b c wr hbc hz=>by
     rcases hrng b c hbc with ⟨x,y⟩ | x | ⟨x,_⟩
     ·cases wr with
      | false=>exact .inl ⟨x,rfl⟩
      | true=>exact absurd y (hz rfl)
     ·exact .inr (.inl x)
     ·exact .inr (.inr x)
    cases (hv1 ev hev).un with
    | cell ad wr b x y =>
      have e1:MemAct.ofEvent ⟨.cell ad,wr,false⟩=.access ⟨.cell ad,wr,false⟩:=by cases wr <;> rfl
      refine ⟨fun t ht=>?_,⟨by simp,by simp,by simp⟩,by rw [e1];exact hlow _ _ x⟩
      rw [e1] at ht
      simp only [MemAct.touch?,Option.some.injEq] at ht
      subst ht
      exact ⟨rfl,_,rfl,hb3 _ _ wr x y⟩
    | obj r wr b x y =>
      have e1:MemAct.ofEvent ⟨.obj r,wr,false⟩=.access ⟨.obj r,wr,false⟩:=by cases wr <;> rfl
      refine ⟨fun t ht=>?_,⟨by simp,by simp,by simp⟩,by rw [e1];exact hlow _ _ x⟩
      rw [e1] at ht
      simp only [MemAct.touch?,Option.some.injEq] at ht
      subst ht
      exact ⟨rfl,_,rfl,hb3 _ _ wr x y⟩
    | room=>exact ⟨fun t ht=>by simp [MemAct.ofEvent,MemAct.touch?] at ht,⟨by simp,by simp,by simp⟩,trivial⟩
   ·rcases hg1 with hg1 | ⟨_,_,_,_,_,hf,_⟩
    ·exact ih τ R1 _ a1 w1' hg1.un ⟨hw1.w0,hn1,fun n hn=>hX.le _ _ (hM.glob n hn),hrng,fun b hb=>Nat.lt_of_lt_of_le (hM1.base b hb) hX.size'⟩ (Nat.le_trans hB hX.size) (fun b c h=>hX.le _ _ (hR b c h)) fun b c h=>by
      rcases hX.new b c h with x | ⟨x,_⟩
      ·exact hR' b c x
      ·exact .inr (Nat.le_trans hB x)
    ·exact hf.elim
end
end Go.Fan
end
section
namespace Go.Fan
open Go Go.Conc Go.ConcN Go.Sim
open Go.ConcR (stA)
structure Kept (Γ:Ge) (F:Nat→Prop) (w0 w:World):Prop where
 size:w0.heap.size≤w.heap.size
 keep:∀b,b < w0.heap.size→(Γ.ro b∨F b)→w.heap[b]? = w0.heap[b]?
 live:WgLive Γ.ty Γ.Wg w0→WgLive Γ.ty Γ.Wg w
theorem Kept.refl (Γ:Ge) (F:Nat→Prop) (w:World):Kept Γ F w w:=⟨Nat.le_refl _,fun _ _ _=>rfl,id⟩
theorem Kept.trans {Γ:Ge} {F:Nat→Prop} {w w1 w2:World} (h:Kept Γ F w w1) (k:Kept Γ F w1 w2):Kept Γ F w w2 :=
 ⟨Nat.le_trans h.size k.size,fun b hb ho=>(k.keep b (Nat.lt_of_lt_of_le hb h.size) ho).trans (h.keep b hb ho),k.live ∘ h.live⟩
theorem Ry.kept {Γ:Ge} {F O:Nat→Prop} {w w1:World} (h:Ry Γ O w w1) (hF:∀b,F b→O b):Kept Γ F w w1:=⟨h.size,fun b hb ho=>h.keep b hb (ho.imp id (hF b)),h.live⟩
theorem Kept.cell {Γ:Ge} {F:Nat→Prop} {w w1:World} (h:Kept Γ F w w1) {a:Addr} {v:Value} (hb:Γ.ro a.block∨F a.block) (hc:w.cell? a=some v):w1.cell? a=some v:=by
 have hlt:a.block < w.heap.size:=by
  rcases Nat.lt_or_ge a.block w.heap.size with h | h
  ·exact h
  ·simp [World.cell?,Array.getElem?_eq_none h] at hc
 rw [World.cell?_of_block (h.keep a.block hlt hb),hc]
theorem Kept.block {Γ:Ge} {F:Nat→Prop} {w w1:World} (h:Kept Γ F w w1) {b:Nat} {o:Obj} (hb:Γ.ro b∨F b) (hc:w.heap[b]? = some o):w1.heap[b]? = some o :=
 (h.keep b (Array.getElem?_eq_some_iff.1 hc).1 hb).trans hc
theorem jW {ty:TypeId} {Wg:Nat} {w w1:World} (e:w1.heap[Wg]? = w.heap[Wg]?) (h:WgLive ty Wg w):WgLive ty Wg w1:=by
 obtain ⟨a,b,h⟩:=h
 exact ⟨a,b,h.of_block e⟩
theorem Kept.alloc {Γ:Ge} {F:Nat→Prop} (w:World) (o:Obj) (hw:Γ.Wg < w.heap.size):Kept Γ F w (w.alloc o) :=
 ⟨by simp [World.size_alloc],fun b hb _=>RowKit.Below.heap_alloc _ _ _ hb,jW (RowKit.Below.heap_alloc _ _ _ hw)⟩
theorem Kept.aside {Γ:Ge} {F:Nat→Prop} {w w1:World} {b:Nat} (h:Aside b w w1) (h1:¬ Γ.ro b) (h2:¬ F b) (h3:b≠Γ.Wg):Kept Γ F w w1 :=
 ⟨Nat.le_of_eq h.size.symm,fun c _ hc=>h.block c fun e=>(hc.elim (fun x=>h1 (e▸x)) fun x=>h2 (e▸x)),jW (h.block _ (Ne.symm h3))⟩
theorem Kept.set {Γ:Ge} {F:Nat→Prop} (w:World) (a:Addr) (v:Value) (h1:¬ Γ.ro a.block) (h2:¬ F a.block) (h3:a.block≠Γ.Wg):Kept Γ F w (w.setCell a v):=.aside (aside_setCell w a v) h1 h2 h3
section
variable {P:Program} {main qt:Bool} {Γ:Ge} {Stop:(Nat→Prop)→Goroutine→World→Prop} {O F:Nat→Prop} {g:Goroutine} {w w0:World}
theorem Way.frame (hF:∀b,F b→b < w0.heap.size) (hwg:Γ.Wg < w0.heap.size) (hro:∀b,Γ.ro b→b < w0.heap.size) (h:Way P main Γ qt Stop O g w) (h1:∀b,O b→w0.heap.size≤b) (h2:Kept Γ F w0 w) :
 Way P main Γ qt (fun O' g' w'=>∃O₁,(O'=fun b=>O₁ b∨F b)∧(∀b,O₁ b→w0.heap.size≤b)∧Stop O₁ g' w'∧Kept Γ F w0 w') (fun b=>O b∨F b) g w:=by
 obtain ⟨r,h⟩:=h
 induction r generalizing O g w with
 | zero=>exact .stop fun w₁ hr=>⟨O,rfl,h1,h w₁ (hr.mono fun _=>.inl),h2.trans (hr.kept fun _=>.inr)⟩
 | node f ih =>
   rcases h with h | ⟨hs,h⟩
   ·exact .stop fun w₁ hr=>⟨O,rfl,h1,h w₁ (hr.mono fun _=>.inl),h2.trans (hr.kept fun _=>.inr)⟩
   ·refine .step hs fun w₁ hr=>?_
    have:=h w₁ (hr.mono fun _=>.inl)
    have hk1:Kept Γ F w0 w₁:=h2.trans (hr.kept fun _=>.inr)
    cases e:stepG P main g w₁ with
    | go g' w' es =>
      rw [e,goes_go] at this
      obtain ⟨⟨hg,hq⟩,hw⟩:=this
      rw [goes_go]
      have hgr:grow (fun b=>O b∨F b) w₁ w'=fun b=>grow O w₁ w' b∨F b:=by
       funext b
       unfold grow
       exact propext ⟨fun h=>h.elim (fun h=>h.elim (fun h=>.inl (.inl h)) .inr) fun h=>.inl (.inr h),fun h=>h.elim (fun h=>h.elim (fun h=>.inl (.inl h)) .inr) fun h=>.inl (.inr h)⟩
      refine ⟨⟨⟨hg.size,fun b hb hn=>hg.stay b hb fun x=>hn (.inl x),hg.tape,hg.os,hg.output,fun ev hev=>?_⟩,hq⟩,?_⟩
      ·obtain ⟨a1,a2,a3⟩:=hg.evs ev hev
       refine ⟨fun x hx=>?_,a2,a3⟩
       obtain ⟨b1,b,b2,b3⟩:=a1 x hx
       exact ⟨b1,b,b2,b3.imp id fun h=>h.imp .inl id⟩
      ·rw [hgr]
       have hlow:∀b,b < w0.heap.size→¬ O b:=fun b hb ho=>by have:=h1 b ho;omega
       refine ih w₁ (fun b hb=>?_) (hk1.trans ⟨hg.size,fun b hb ho=>hg.stay b hb fun x=>?_,fun hl=>jW (hg.stay _ (Nat.lt_of_lt_of_le hwg hk1.size) (hlow _ hwg)) hl⟩) hw
       ·rcases hb with hb | hb
        ·exact h1 b hb
        ·exact Nat.le_trans hk1.size hb.1
       ·exact hlow b (ho.elim (hro b) (hF b)) x
    | _=>rw [e] at this;exact this.elim
end
section
variable {P' P:Program} {K:Cfg} {Γ:Ge} {c g:Nat→Bool} {main:Bool} {Stop:(Nat→Prop)→Goroutine→World→Prop}
theorem MW.kept {R:Nat→Nat→Prop} {F:Nat→Prop} {w w' w₁:World} (h:MW K Γ g R (fun _=>False) w w') (hr:Kept Γ F w' w₁):MW K Γ g R (fun _=>False) w w₁:=by
 have key:∀b c,R b c→w₁.heap[c]? = w'.heap[c]? := fun b c hbc=>by
  obtain ⟨_,o',_,h2,_⟩:=h.w0.obj b c hbc
  refine hr.keep c (Array.getElem?_eq_some_iff.1 h2).1 ?_
  rcases h.rng b c hbc with x | x
  ·exact .inl x.1
  ·exact x.elim
 refine ⟨⟨h.w0.fn,h.w0.inj,fun b c hbc=>?_,h.w0.fz,h.w0.glob,h.w0.big,Nat.le_trans h.w0.big' hr.size⟩,h.nd,h.glob,h.rng,fun b hb=>Nat.lt_of_lt_of_le (h.base b hb) hr.size⟩
 obtain ⟨o,o',h1,h2,h3⟩:=h.w0.obj b c hbc
 exact ⟨o,o',h1,(key b c hbc).trans h2,h3⟩
theorem way_call (Z:Cov K P' P c g (fun _=>False)) {f:FuncId} {args args':Array Value} {v:Value} {Post:Value→World→Prop} {Ws w:World} {R:Nat→Nat→Prop} {F:Nat→Prop}
 {bf:Frame} {aa:Go.Act} {ops:Array Oper} {i:Nat} {rest:List Nat} {kk:List Item} {cs:List Frame}
 (hT:LT P' true (FinP P' Post) (entryG P' f args [c0]) Ws) (hpost:∀x w,Post x w→x=v) (hv:zA 8 v=true)
 (hM:MW K Γ g R (fun _=>False) Ws w) (hA:AR K.C R args args') (hf:K.C f) (hF:∀b,F b→b < w.heap.size) (hwg:Γ.Wg < w.heap.size)
 (k:∀(O₁:Nat→Prop) (w₁:World),(∀b,O₁ b→w.heap.size≤b)→Kept Γ F w w₁→Way P main Γ false Stop (fun b=>O₁ b∨F b) (G (bf.at (aa.put ((ops[i]?).bind (·.dst)) v) (.inRegion ops rest :: kk)) cs) w₁) :
 Way P main Γ false Stop F (G (Frame.enter P f args' .normal) (bf.at aa (.inRegion ops (i :: rest) :: kk) :: cs)) w:=by
 have hG:GR K P' P (.lone (bf.at aa (.inRegion ops (i :: rest) :: kk) :: cs)) R (entryG P' f args [c0]) (G (Frame.enter P f args' .normal) (bf.at aa (.inRegion ops (i :: rest) :: kk) :: cs)):=.mk (FR.enter Z hf (fun h=>h) hA) (.base rfl)
 have h:=qfW (main:=main) (Γ:=Γ) (g:=g) Z R Ws.heap.size hT R (fun _=>False) _ w hG hM (Nat.le_refl _) (fun _ _ h=>h) (fun _ _ h=>.inl h)
 refine ((h.frame (F:=F) (w0:=w) hF hwg hM.base (fun _ h=>h.elim) (.refl _ _ _)).bind ?_).cast (funext fun b=>propext ⟨.inr,fun h=>h.elim False.elim id⟩)
 rintro O' a w1 ⟨O₁,rfl,hO,⟨q,ws,R1,hl,hfin,hG1,hM1,_,_⟩,hk⟩
 refine .step (by cases hG1;rfl) fun w2 hr=>?_
 have hM2:=hM1.rely (hr.mono fun _=>.inl)
 have hk2:Kept Γ F w w2:=hk.trans (hr.kept fun _=>.inr)
 obtain ⟨l1,l2,l3⟩:=hl
 obtain ⟨v',fn,e1,e2,e3⟩:=hfin ws.tape
 obtain rfl:v'=v:=hpost _ _ (e3 ws.tape)
 cases hG1 with
 | @mk qa a' kq ka ha hkr =>
   simp only at l1 l2 l3 e1 e2
   have hdf:=ha.defers
   subst l3
   obtain rfl:ka=bf.at aa (.inRegion ops (i :: rest) :: kk) :: cs:=by
    cases hkr with
    | base _=>rfl
    | over h=>cases h with
      | cons h1 h2=>cases h2
   obtain ⟨Fn,f1,f2,hi⟩:=ha.std
   have hfd:a'.defers=[]:=by
    rw [l2] at hdf
    revert hdf
    generalize a'.defers=ds
    intro hdf
    cases hdf;rfl
   have hmd:a'.mode=.returning:=by
    rcases ha.mode with ⟨h,_⟩ | ⟨_,h⟩
    ·rw [l1] at h;cases h
    ·exact h
   have hfn:Fn=fn:=by rw [e1] at f1;cases f1;rfl
   subst hfn
   have hwr:WR (K.at ws.drawn) R1 (ws.tp (fun n z=>w2.tape (w2.drawn+(n - ws.drawn)) z)) w2:=W0.wr (⟨hM2.w0.fn,hM2.w0.inj,hM2.w0.obj,hM2.w0.fz,hM2.w0.glob,hM2.w0.big,hM2.w0.big'⟩:W0 K R1 (ws.tp (fun n z=>w2.tape (w2.drawn+(n - ws.drawn)) z)) w2) _ fun j z _=>by
    show w2.tape (w2.drawn+j) z=w2.tape (w2.drawn+(ws.drawn+j - ws.drawn)) z
    rw [Nat.add_sub_cancel_left]
   obtain ⟨R2,vv,w2',h1,h2,h3,h4,h5,_⟩:=(qc.results (K:=K.at ws.drawn) (P':=P') (P:=P) Z.toSame Fn ha.tmps _ _ hwr).1 v' _ (e2 (fun n z=>w2.tape (w2.drawn+(n - ws.drawn)) z)) (Nat.le_refl _)
   obtain rfl:vv=v':=VR.plain_eq h5 hv
   obtain ⟨fn0,ts,td,ds,mode,kind,ro⟩:=a'
   have hkd:=ha.kind'
   have hfe:=ha.fn
   simp only at hfd hmd hkd hfe h1 h4
   subst hfd hmd hkd
   have f2':P.funcs[fn0]? = some Fn:=by rw [hfe];exact f2
   obtain rfl:w2'=w2:=by
    rcases Still.results Fn ts P w2 with ⟨_,e⟩ | ⟨_,e⟩
    ·rw [h1] at e;cases e;rfl
    ·rw [h1] at e;cases e
   have hst:stepG P main { frame:={ fn:=fn0,tmps:=ts,todo:=td,defers:=[],mode:=.returning,kind:=.normal,roundOf:=ro },callers:=bf.at aa (.inRegion ops (i :: rest) :: kk) :: cs,status:=.running,dying:=none } w2'
    = .go (G ((bf.at aa (.inRegion ops (i :: rest) :: kk)).finish vv) cs) w2' (seen P fn0 ((Go.results Fn ts).events P w2' #[])):=by
    unfold stepG
    dsimp only
    unfold unwind
    simp only [f2',Sem.runT_eq,h1,doReturn]
    simp [GStep.after,G]
   rw [hst,goes_go,yn rfl,Frame.finish_at]
   refine ⟨⟨⟨Nat.le_refl _,fun _ _ _=>rfl,rfl,rfl,rfl,fun e he=>?_⟩,fun h=>by cases h⟩,k O₁ w2' hO hk2⟩
   have hlow:∀b c,R2 b c→c < w2'.heap.size:=fun b c hbc=>by
    obtain ⟨_,o',_,x,_⟩:=h2.obj b c hbc
    exact (Array.getElem?_eq_some_iff.1 x).1
   have hb3:∀b c (wr:Bool),R2 b c→(wr=true→¬ K.Fz b)→(Γ.ro c∧wr=false)∨(O₁ c∨F c)∨w2'.heap.size≤c:=fun b c wr hbc hz=>by
    rcases h3.new b c hbc with x | ⟨_,x⟩
    ·rcases hM2.rng b c x with ⟨x,y⟩ | x
     ·cases wr with
      | false=>exact .inl ⟨x,rfl⟩
      | true=>exact absurd y (hz rfl)
     ·exact .inr (.inl (.inl x))
    ·have:=hlow b c hbc
     omega
   cases h4 e (mem_seen he) with
   | cell ad wr b x y =>
     have e1:MemAct.ofEvent ⟨.cell ad,wr,false⟩=.access ⟨.cell ad,wr,false⟩:=by cases wr <;> rfl
     refine ⟨fun t ht=>?_,⟨by simp,by simp,by simp⟩,by rw [e1];exact hlow _ _ x⟩
     rw [e1] at ht
     simp only [MemAct.touch?,Option.some.injEq] at ht
     subst ht
     exact ⟨rfl,_,rfl,hb3 _ _ wr x y⟩
   | obj r wr b x y =>
     have e1:MemAct.ofEvent ⟨.obj r,wr,false⟩=.access ⟨.obj r,wr,false⟩:=by cases wr <;> rfl
     refine ⟨fun t ht=>?_,⟨by simp,by simp,by simp⟩,by rw [e1];exact hlow _ _ x⟩
     rw [e1] at ht
     simp only [MemAct.touch?,Option.some.injEq] at ht
     subst ht
     exact ⟨rfl,_,rfl,hb3 _ _ wr x y⟩
   | room=>exact ⟨fun t ht=>by simp [MemAct.ofEvent,MemAct.touch?] at ht,⟨by simp,by simp,by simp⟩,trivial⟩
end
end Go.Fan
end
namespace Go.Proofs.Tryz
open Go Go.Conc Go.ConcN Go.Fan Go.RowKit Go.Conc.Lib
def kidB:Frame:=baseD 60
noncomputable def jw:Frame:={ (default:Frame) with fn:=Tryz.prog.funcs.size,defers:=[],mode:=.panicking [goexitEntry] }
noncomputable def YA:Code:=Tryz.f60.body.getD .skip
noncomputable def yu:Array Oper:=match YA with | .seq _ (.region _ ops _)=>ops | _=>#[]
def jh (Wg cb ib xb:Nat):Deferred:={ target:=.fn (.func 60) #[.pointer (some ⟨Wg,0,none⟩),.pointer (some ⟨cb,0,none⟩),.pointer (some ⟨ib,0,none⟩),.pointer (some ⟨xb,0,none⟩)],args:=#[] }
theorem kid_born (Wg cb ib xb:Nat) (w:World):stepG Tryz.prog false (born Tryz.prog (jh Wg cb ib xb)) w =
 .go (G (kidB.at ⟨#[.pointer (some ⟨Wg,0,none⟩),.pointer (some ⟨cb,0,none⟩),.pointer (some ⟨ib,0,none⟩),.pointer (some ⟨xb,0,none⟩),undef,undef,undef,undef,undef,undef],[]⟩ [.code YA]) [jw]) w #[]:=by
 simp [born,jh,stepG,unwind,callDeferred,invoke,callFunc,Tryz.func60,Tryz.f60,seen,GStep.after,G,Frame.enter,Frame.at,kidB,baseD,jw,YA]
theorem kidTail (T:Array Value):QuitsD Tryz.prog 2 0 (G { kidB.at ⟨T,[]⟩ [] with mode:=.returning } [jw]):=by
 refine QuitsD.ctl (g':=G jw []) rfl (fun w=>?_) ?_
 ·simp [G,stepG,unwind,doReturn,results,Frame.at,kidB,baseD,jw,Tryz.func60,Tryz.f60,seen,GStep.after,goexitEntry]
 refine QuitsD.ctl (g':={ G jw [] with status:=.finished }) rfl (fun w=>?_) ⟨rfl,rfl⟩
 simp [G,stepG,unwind,jw,goexitEntry,Frame.catches]
 rfl
theorem JX (l0 l1 l2 l3 l4 l5 l6:Bool):Region.ready .any yu #[l0,l1,l2,l3,l4,l5,l6] =
 [0,1,2,3,4,5,6].filter fun i=>match i with | 0 => !l0 | 1 => !l1 | 2 => !l2 | 3 => !l3 | 4 => !l4 && l2 && l3 | 5 => !l5 && l1 && l4 | _ => !l6 && l0 && l5 && l4:=by
 cases l0 <;> cases l1 <;> cases l2 <;> cases l3 <;> cases l4 <;> cases l5 <;> cases l6 <;> kernel_rfl
noncomputable def QU (k:Nat):Oper:=(yu[k]?).getD default
theorem kid_at0:yu[0]? = some (QU 0):=by kernel_rfl
theorem kid_at1:yu[1]? = some (QU 1):=by kernel_rfl
theorem kid_at2:yu[2]? = some (QU 2):=by kernel_rfl
theorem kid_at3:yu[3]? = some (QU 3):=by kernel_rfl
theorem qeo:yu[4]? = some (QU 4):=by kernel_rfl
theorem kid_at5:yu[5]? = some (QU 5):=by kernel_rfl
theorem qep:yu[6]? = some (QU 6):=by kernel_rfl
theorem kid_g0:(QU 0).guard=none:=by kernel_rfl
theorem kid_g1:(QU 1).guard=none:=by kernel_rfl
theorem kid_g2:(QU 2).guard=none:=by kernel_rfl
theorem kid_g3:(QU 3).guard=none:=by kernel_rfl
theorem kid_g4:(QU 4).guard=none:=by kernel_rfl
theorem kid_g5:(QU 5).guard=none:=by kernel_rfl
theorem kid_g6:(QU 6).guard=none:=by kernel_rfl
theorem kid_d0:(QU 0).dst=some 4:=by kernel_rfl
theorem kid_d1:(QU 1).dst=some 5:=by kernel_rfl
theorem kid_d2:(QU 2).dst=some 6:=by kernel_rfl
theorem kid_d3:(QU 3).dst=some 7:=by kernel_rfl
theorem kid_d4:(QU 4).dst=some 8:=by kernel_rfl
theorem kid_d5:(QU 5).dst=some 9:=by kernel_rfl
theorem kid_d6:(QU 6).dst=none:=by kernel_rfl
theorem kid_op0:(QU 0).op=.load 87 (.tmp 1):=by kernel_rfl
theorem kid_op1:(QU 1).op=.load 3 (.tmp 2):=by kernel_rfl
theorem kid_op2:(QU 2).op=.load 67 (.tmp 3):=by kernel_rfl
theorem kid_op3:(QU 3).op=.load 3 (.tmp 2):=by kernel_rfl
theorem kid_op4:(QU 4).op=.call { callee:=.value (.func 62),args:=#[.tmp 6,.tmp 7],argTypes:=#[67,3] }:=by kernel_rfl
theorem qer:(QU 5).op=.build 101 #[(0,.tmp 5),(1,.tmp 8)]:=by kernel_rfl
theorem kid_op6:(QU 6).op=.send (.tmp 4) (.tmp 9):=by kernel_rfl
end Go.Proofs.Tryz
section
namespace Go.Proofs.Tryz
open Go Go.Conc Go.Fan Go.RowKit Go.Conc.Lib
open Go.ConcN (WgLive)
structure KidF (Γ:Ge) (cb xb ib:Nat) (i:Int) (cells:Array Value) (O:Nat→Prop) (w:World):Prop where
 rc:Γ.ro cb
 rx:Γ.ro xb
 oi:O ib
 ch:w.cell? ⟨cb,0,none⟩=some (.chan (some Γ.Ch))
 bk:∃e f,w.heap[xb]? = some (.cells cells e f)
 ix:w.cell? ⟨ib,0,none⟩=some (.int .i64 i)
 wg:Γ.Wg < w.heap.size
 live:WgLive Γ.ty Γ.Wg w
theorem KidF.kept {Γ:Ge} {cb xb ib:Nat} {i:Int} {cells:Array Value} {O F O':Nat→Prop} {w w₁:World} (h:KidF Γ cb xb ib i cells O w) (k:Kept Γ F w w₁) (hF:F ib) (hO:O' ib):KidF Γ cb xb ib i cells O' w₁ :=
 ⟨h.rc,h.rx,hO,k.cell (.inl h.rc) h.ch,let ⟨e,f,x⟩:=h.bk;⟨e,f,k.block (.inl h.rx) x⟩,k.cell (.inr hF) h.ix,Nat.lt_of_lt_of_le h.wg k.size,k.live h.live⟩
def ZZ (Wg cb ib xb Ch:Nat) (i n:Int) (bv:Value) (l0 l1 l2 l3 l4 l5:Bool):Array Value :=
 #[.pointer (some ⟨Wg,0,none⟩),.pointer (some ⟨cb,0,none⟩),.pointer (some ⟨ib,0,none⟩),.pointer (some ⟨xb,0,none⟩),
   bif l0 then .chan (some Ch) else undef,bif l1 then .int .i64 i else undef,bif l2 then bv else undef,bif l3 then .int .i64 i else undef,bif l4 then .int .i64 n else undef,bif l5 then .agg #[.int .i64 i,.int .i64 n] else undef]
section
variable {Wg cb ib xb Ch:Nat} {i n:Int} {bv:Value} {l0 l1 l2 l3 l4 l5:Bool} {ds:List Deferred}
theorem kid_put0:Go.Act.put ⟨ZZ Wg cb ib xb Ch i n bv false l1 l2 l3 l4 l5,ds⟩ (some 4) (.chan (some Ch))=⟨ZZ Wg cb ib xb Ch i n bv true l1 l2 l3 l4 l5,ds⟩:=rfl
theorem kid_set0:#[false,l1,l2,l3,l4,l5,false].setIfInBounds 0 true=#[true,l1,l2,l3,l4,l5,false]:=rfl
theorem kid_put1:Go.Act.put ⟨ZZ Wg cb ib xb Ch i n bv l0 false l2 l3 l4 l5,ds⟩ (some 5) (.int .i64 i)=⟨ZZ Wg cb ib xb Ch i n bv l0 true l2 l3 l4 l5,ds⟩:=rfl
theorem kid_set1:#[l0,false,l2,l3,l4,l5,false].setIfInBounds 1 true=#[l0,true,l2,l3,l4,l5,false]:=rfl
theorem kid_put2:Go.Act.put ⟨ZZ Wg cb ib xb Ch i n bv l0 l1 false l3 l4 l5,ds⟩ (some 6) (bv)=⟨ZZ Wg cb ib xb Ch i n bv l0 l1 true l3 l4 l5,ds⟩:=rfl
theorem kid_set2:#[l0,l1,false,l3,l4,l5,false].setIfInBounds 2 true=#[l0,l1,true,l3,l4,l5,false]:=rfl
theorem kid_put3:Go.Act.put ⟨ZZ Wg cb ib xb Ch i n bv l0 l1 l2 false l4 l5,ds⟩ (some 7) (.int .i64 i)=⟨ZZ Wg cb ib xb Ch i n bv l0 l1 l2 true l4 l5,ds⟩:=rfl
theorem kid_set3:#[l0,l1,l2,false,l4,l5,false].setIfInBounds 3 true=#[l0,l1,l2,true,l4,l5,false]:=rfl
theorem kid_put4:Go.Act.put ⟨ZZ Wg cb ib xb Ch i n bv l0 l1 l2 l3 false l5,ds⟩ (some 8) (.int .i64 n)=⟨ZZ Wg cb ib xb Ch i n bv l0 l1 l2 l3 true l5,ds⟩:=rfl
theorem kid_set4:#[l0,l1,l2,l3,false,l5,false].setIfInBounds 4 true=#[l0,l1,l2,l3,true,l5,false]:=rfl
theorem kid_put5:Go.Act.put ⟨ZZ Wg cb ib xb Ch i n bv l0 l1 l2 l3 l4 false,ds⟩ (some 9) (.agg #[.int .i64 i,.int .i64 n])=⟨ZZ Wg cb ib xb Ch i n bv l0 l1 l2 l3 l4 true,ds⟩:=rfl
theorem kid_set5:#[l0,l1,l2,l3,l4,false,false].setIfInBounds 5 true=#[l0,l1,l2,l3,l4,true,false]:=rfl
theorem kid_args:(#[Operand.tmp 6,Operand.tmp 7].map (Go.Act.eval ⟨ZZ Wg cb ib xb Ch i n bv l0 l1 true true l4 l5,ds⟩))=#[bv,.int .i64 i]:=by simp [Go.Act.eval,ZZ]
end
theorem JV (i n:Int) (w:World):(Instr.build 101 #[(0,.int .i64 i),(1,.int .i64 n)]).run Tryz.prog w=.ok (.agg #[.int .i64 i,.int .i64 n]) w:=run_build w 101 _ _ (by kernel_rfl)
theorem JW (i n:Int) (w:World) (es:Array Event):(Instr.build 101 #[(0,.int .i64 i),(1,.int .i64 n)]).events Tryz.prog w es=es:=by simp [go_sem,Instr.build]
def off:List Bool→Nat
 | []=>0
 | true :: l=>off l
 | false :: l=>off l+1
theorem off_some:∀l0 l1 l2 l3 l4 l5:Bool,off [l0,l1,l2,l3,l4,l5,false]≠0:=by decide
theorem kid_some (l0 l1 l2 l3 l4 l5:Bool) (h4:l4=true→l2=true∧l3=true) (h5:l5=true→l1=true∧l4=true):Region.ready .any yu #[l0,l1,l2,l3,l4,l5,false]≠[]:=by
 rw [JX]
 revert l0 l1 l2 l3 l4 l5
 decide
theorem off0:∀{l1 l2 l3 l4 l5:Bool} {n:Nat},off [false,l1,l2,l3,l4,l5,false]=n+1→off [true,l1,l2,l3,l4,l5,false]=n:=by
 intro l1 l2 l3 l4 l5 n h
 have e:∀l0 l1 l2 l3 l4 l5:Bool,off [false,l1,l2,l3,l4,l5,false]=off [true,l1,l2,l3,l4,l5,false]+1:=by decide
 have:=e true l1 l2 l3 l4 l5
 omega
theorem off1:∀{l0 l2 l3 l4 l5:Bool} {n:Nat},off [l0,false,l2,l3,l4,l5,false]=n+1→off [l0,true,l2,l3,l4,l5,false]=n:=by
 intro l0 l2 l3 l4 l5 n h
 have e:∀l0 l1 l2 l3 l4 l5:Bool,off [l0,false,l2,l3,l4,l5,false]=off [l0,true,l2,l3,l4,l5,false]+1:=by decide
 have:=e l0 true l2 l3 l4 l5
 omega
theorem off2:∀{l0 l1 l3 l4 l5:Bool} {n:Nat},off [l0,l1,false,l3,l4,l5,false]=n+1→off [l0,l1,true,l3,l4,l5,false]=n:=by
 intro l0 l1 l3 l4 l5 n h
 have e:∀l0 l1 l2 l3 l4 l5:Bool,off [l0,l1,false,l3,l4,l5,false]=off [l0,l1,true,l3,l4,l5,false]+1:=by decide
 have:=e l0 l1 true l3 l4 l5
 omega
theorem off3:∀{l0 l1 l2 l4 l5:Bool} {n:Nat},off [l0,l1,l2,false,l4,l5,false]=n+1→off [l0,l1,l2,true,l4,l5,false]=n:=by
 intro l0 l1 l2 l4 l5 n h
 have e:∀l0 l1 l2 l3 l4 l5:Bool,off [l0,l1,l2,false,l4,l5,false]=off [l0,l1,l2,true,l4,l5,false]+1:=by decide
 have:=e l0 l1 l2 true l4 l5
 omega
theorem off4:∀{l0 l1 l2 l3 l5:Bool} {n:Nat},off [l0,l1,l2,l3,false,l5,false]=n+1→off [l0,l1,l2,l3,true,l5,false]=n:=by
 intro l0 l1 l2 l3 l5 n h
 have e:∀l0 l1 l2 l3 l4 l5:Bool,off [l0,l1,l2,l3,false,l5,false]=off [l0,l1,l2,l3,true,l5,false]+1:=by decide
 have:=e l0 l1 l2 l3 true l5
 omega
theorem off5:∀{l0 l1 l2 l3 l4:Bool} {n:Nat},off [l0,l1,l2,l3,l4,false,false]=n+1→off [l0,l1,l2,l3,l4,true,false]=n:=by
 intro l0 l1 l2 l3 l4 n h
 have e:∀l0 l1 l2 l3 l4 l5:Bool,off [l0,l1,l2,l3,l4,false,false]=off [l0,l1,l2,l3,l4,true,false]+1:=by decide
 have:=e l0 l1 l2 l3 l4 true
 omega
section
variable {P':Program} {K:Sim.Cfg} {Γ:Ge} {c g:Nat→Bool} {cb xb ib:Nat} {i n:Int} {x0 x1 x2 x3 x4:Value}
theorem kid_ops (Z:Sim.Cov K P' Tryz.prog c g (fun _=>False)) {Post:Value→World→Prop} {Ws:World} {R:Nat→Nat→Prop} {bs:Value}
 (hT:Sim.LT P' true (Sim.FinP P' Post) (Sim.entryG P' 62 #[bs,.int .i64 i] [Sim.c0]) Ws) (hpost:∀x w,Post x w→x=.int .i64 n)
 (hf:K.C 62) (hbs:Sim.VR K.C R bs (.agg #[x0,x1,x2,x3,x4]))
 (hS:∀O w,KidF Γ cb xb ib i #[x0,x1,x2,x3,x4] O w→qcu Tryz.prog Γ (.agg #[.int .i64 i,.int .i64 n]) O (G (kidB.at ⟨ZZ Γ.Wg cb ib xb Γ.Ch i n (.agg #[x0,x1,x2,x3,x4]) true true true true true true,[dcall 61 #[.pointer (some ⟨Γ.Wg,0,none⟩)]]⟩ [.inRegion yu [6]]) [jw]) w) :
 ∀(fuel t:Nat) (l0 l1 l2 l3 l4 l5:Bool) (O:Nat→Prop) (w:World),off [l0,l1,l2,l3,l4,l5,false]=fuel→(l4=true→l2=true∧l3=true)→(l5=true→l1=true∧l4=true) →
  KidF Γ cb xb ib i #[x0,x1,x2,x3,x4] O w→(l4=false→∀b,O b→b < w.heap.size)→MW K Γ g R (fun _=>False) Ws w →
  Fan.Way Tryz.prog false Γ false (qcu Tryz.prog Γ (.agg #[.int .i64 i,.int .i64 n])) O
   (G (kidB.at ⟨ZZ Γ.Wg cb ib xb Γ.Ch i n (.agg #[x0,x1,x2,x3,x4]) l0 l1 l2 l3 l4 l5,[dcall 61 #[.pointer (some ⟨Γ.Wg,0,none⟩)]]⟩ [.inRegion yu (Region.linearise.go .any yu fuel t #[l0,l1,l2,l3,l4,l5,false] [])]) [jw]) w:=by
 intro fuel
 induction fuel with
 | zero =>
   intro t l0 l1 l2 l3 l4 l5 O w h
   exact absurd h (off_some l0 l1 l2 l3 l4 l5)
 | succ fuel ih =>
   intro t l0 l1 l2 l3 l4 l5 O w hoff h4 h5 hF hO hM
   obtain ⟨k,t',hk,e⟩:=lin_cons fuel t (kid_some l0 l1 l2 l3 l4 l5 h4 h5)
   rw [e]
   clear e
   rw [JX] at hk
   simp only [List.mem_filter,List.mem_cons,List.not_mem_nil,or_false] at hk
   obtain ⟨hk,hc⟩:=hk
   rcases hk with rfl | rfl | rfl | rfl | rfl | rfl | rfl
   ·obtain rfl:l0=false:=by simpa using hc
    refine Fan.Way.load1 kid_at0 kid_g0 (by k_ne) kid_op0 rfl Tryz.isAgg87 (.inl hF.rc) hF.ch ?_
    rw [kid_d0,kid_put0,kid_set0]
    exact ih t' true l1 l2 l3 l4 l5 O w (off0 hoff) h4 h5 hF hO hM
   ·obtain rfl:l1=false:=by simpa using hc
    refine Fan.Way.load1 kid_at1 kid_g1 (by k_ne) kid_op1 rfl Tryz.isAgg3 (.inr hF.oi) hF.ix ?_
    rw [kid_d1,kid_put1,kid_set1]
    exact ih t' l0 true l2 l3 l4 l5 O w (off1 hoff) h4 (fun h=>⟨rfl,(h5 h).2⟩) hF hO hM
   ·obtain rfl:l2=false:=by simpa using hc
    obtain ⟨_,_,hx⟩:=hF.bk
    refine Fan.Way.loadS (cells:=#[x0,x1,x2,x3,x4]) kid_at2 kid_g2 (by k_ne) kid_op2 rfl Tryz.isAgg67 Tryz.sizeOf67 (.inl hF.rx) hx ?_
    rw [kid_d2,kid_put2,kid_set2]
    exact ih t' l0 l1 true l3 l4 l5 O w (off2 hoff) (fun h=>⟨rfl,(h4 h).2⟩) h5 hF hO hM
   ·obtain rfl:l3=false:=by simpa using hc
    refine Fan.Way.load1 kid_at3 kid_g3 (by k_ne) kid_op3 rfl Tryz.isAgg3 (.inr hF.oi) hF.ix ?_
    rw [kid_d3,kid_put3,kid_set3]
    exact ih t' l0 l1 l2 true l4 l5 O w (off3 hoff) (fun h=>⟨(h4 h).1,rfl⟩) h5 hF hO hM
   ·obtain ⟨rfl,rfl,rfl⟩:l4=false∧l2=true∧l3=true:=by simpa [and_assoc] using hc
    refine Fan.Way.enter qeo (by unfold Region.wanted;rw [kid_g4]) (by k_ne) kid_op4 Tryz.func62 (by kernel_rfl) (by kernel_rfl) ?_
    rw [kid_args]
    refine way_call Z hT hpost rfl hM (args':=#[.agg #[x0,x1,x2,x3,x4],.int .i64 i]) ⟨rfl,fun j x x' h1 h2=>?_⟩ hf (hO rfl) hF.wg (fun O₁ w₁ h1 hk=>?_)
    ·rcases j with _ | _ | j
     ·simp only [List.getElem?_toArray,List.getElem?_cons_zero,Option.some.injEq] at h1 h2
      subst h1 h2;exact hbs
     ·simp only [List.getElem?_toArray,List.getElem?_cons_succ,List.getElem?_cons_zero,Option.some.injEq] at h1 h2
      subst h1 h2;exact .int _ _
     ·simp at h1
    ·rw [qeo]
     simp only [Option.bind_some]
     rw [kid_d4,kid_put4,kid_set4]
     exact ih t' l0 l1 true true true l5 _ w₁ (off4 hoff) (fun _=>⟨rfl,rfl⟩) (fun h=>⟨(h5 h).1,rfl⟩) (hF.kept hk hF.oi (.inr hF.oi)) (fun h=>by cases h) (hM.kept hk)
   ·obtain ⟨rfl,rfl,rfl⟩:l5=false∧l1=true∧l4=true:=by simpa [and_assoc] using hc
    refine Fan.Way.value (.agg #[.int .i64 i,.int .i64 n]) kid_at5 (by unfold Region.wanted;rw [kid_g5]) (by k_ne) (fun w₁=>?_) (fun w₁=>?_) ?_
    ·unfold execOp
     rw [qer]
     have e1:Go.Act.eval ⟨ZZ Γ.Wg cb ib xb Γ.Ch i n (.agg #[x0,x1,x2,x3,x4]) l0 true l2 l3 true false,[dcall 61 #[.pointer (some ⟨Γ.Wg,0,none⟩)]]⟩ (.tmp 5)=.int .i64 i:=rfl
     have e2:Go.Act.eval ⟨ZZ Γ.Wg cb ib xb Γ.Ch i n (.agg #[x0,x1,x2,x3,x4]) l0 true l2 l3 true false,[dcall 61 #[.pointer (some ⟨Γ.Wg,0,none⟩)]]⟩ (.tmp 8)=.int .i64 n:=rfl
     generalize Go.Act.eval _=ev at e1 e2 ⊢
     simp [e1,e2,JV]
    ·unfold execOp
     rw [qer]
     have e1:Go.Act.eval ⟨ZZ Γ.Wg cb ib xb Γ.Ch i n (.agg #[x0,x1,x2,x3,x4]) l0 true l2 l3 true false,[dcall 61 #[.pointer (some ⟨Γ.Wg,0,none⟩)]]⟩ (.tmp 5)=.int .i64 i:=rfl
     have e2:Go.Act.eval ⟨ZZ Γ.Wg cb ib xb Γ.Ch i n (.agg #[x0,x1,x2,x3,x4]) l0 true l2 l3 true false,[dcall 61 #[.pointer (some ⟨Γ.Wg,0,none⟩)]]⟩ (.tmp 8)=.int .i64 n:=rfl
     generalize Go.Act.eval _=ev at e1 e2 ⊢
     simp [e1,e2,JW,JV]
    rw [kid_d5,kid_put5,kid_set5]
    exact ih t' l0 true l2 l3 true true O w (off5 hoff) h4 (fun _=>⟨rfl,rfl⟩) hF hO hM
   ·obtain ⟨rfl,rfl,rfl⟩:l0=true∧l5=true∧l4=true:=by simpa [and_assoc] using hc
    obtain ⟨rfl,_⟩:=h5 rfl
    obtain ⟨rfl,rfl⟩:=h4 rfl
    obtain rfl:fuel=0:=by simpa [off] using hoff.symm
    exact .stop fun w₁ hr=>hS O w₁ (hF.kept (hr.kept fun _ h=>h) hF.oi hF.oi)
end
end Go.Proofs.Tryz
end
section
namespace Go.Proofs.Tryz
open Go Go.Conc Go.Fan Go.RowKit Go.Conc.Lib
open Go.ConcN (WgLive)
noncomputable def doneBody:Code:=Tryz.f61.body.getD .skip
def qdy (Γ:Ge):Prop:=∀(T:Array Value) (w:World),WgLive Γ.ty Γ.Wg w →
 qG Tryz.prog false Γ.ty Γ.Wg (WRel Tryz.prog Γ) (G ((baseD 61).at ⟨#[.pointer (some ⟨Γ.Wg,0,none⟩),undef,undef,undef],[]⟩ [.code doneBody]) [{ kidB.at ⟨T,[]⟩ [] with mode:=.returning },jw]) w
section
variable {Γ:Ge} {cb xb ib:Nat} {i n:Int} {x0 x1 x2 x3 x4:Value}
theorem kid_send (hD:qdy Γ) (O:Nat→Prop) (w:World) (hF:KidF Γ cb xb ib i #[x0,x1,x2,x3,x4] O w) :
 qcu Tryz.prog Γ (.agg #[.int .i64 i,.int .i64 n]) O (G (kidB.at ⟨ZZ Γ.Wg cb ib xb Γ.Ch i n (.agg #[x0,x1,x2,x3,x4]) true true true true true true,[dcall 61 #[.pointer (some ⟨Γ.Wg,0,none⟩)]]⟩ [.inRegion yu [6]]) [jw]) w:=by
 have e1:Go.Act.eval ⟨ZZ Γ.Wg cb ib xb Γ.Ch i n (.agg #[x0,x1,x2,x3,x4]) true true true true true true,[dcall 61 #[.pointer (some ⟨Γ.Wg,0,none⟩)]]⟩ (.tmp 4)=.chan (some Γ.Ch):=rfl
 have e2:Go.Act.eval ⟨ZZ Γ.Wg cb ib xb Γ.Ch i n (.agg #[x0,x1,x2,x3,x4]) true true true true true true,[dcall 61 #[.pointer (some ⟨Γ.Wg,0,none⟩)]]⟩ (.tmp 9)=.agg #[.int .i64 i,.int .i64 n]:=rfl
 refine ⟨rfl,undef,?_,?_⟩
 ·rw [stepG_comm qep (by unfold Region.wanted;rw [kid_g6]) (by k_ne) (cases:=#[scase Γ.Ch (.agg #[.int .i64 i,.int .i64 n]) undef]) (blocking:=true) (shape:=.send) (w':=w)]
  ·rfl
  ·unfold execOp
   rw [kid_op6]
   simp only [e1,e2]
   rfl
 ·rw [served_G,qep]
  simp only [Option.bind_some]
  rw [kid_d6]
  obtain ⟨m,hm⟩:=hD (ZZ Γ.Wg cb ib xb Γ.Ch i n (.agg #[x0,x1,x2,x3,x4]) true true true true true true) w hF.live
  refine ⟨m+1+1+1,?_⟩
  refine Goes.step rfl (fun w₁ h₁=>?_)
  rw [stepG_region_end];simp only [goes_go]
  refine ⟨⟨rfl,rfl⟩,?_⟩
  refine Goes.step rfl (fun w₂ h₂=>?_)
  rw [stepG_end];simp only [goes_go]
  refine ⟨⟨rfl,rfl⟩,?_⟩
  refine Goes.step rfl (fun w₃ h₃=>?_)
  rw [stepG_unwind_enter rfl Tryz.func61 (by kernel_rfl) (by kernel_rfl)]
  simp only [goes_go]
  refine ⟨⟨rfl,rfl⟩,?_⟩
  exact Goes.rely (R:=RL Γ.ty Γ.Wg) (fun _ _ _ a b x=>b (a x)) hm (fun x=>h₃ (h₂ (h₁ x)))
noncomputable def JU:Oper:=match YA with | .seq (.region _ ops _) _=>(ops[0]?).getD default | _=>default
theorem kid_body:YA=.seq (.region 0 #[JU] false) (.region 1 yu true):=by kernel_rfl
theorem qeq:JU.op=.defer { callee:=.value (.func 61),args:=#[.tmp 0],argTypes:=#[97] }:=by kernel_rfl
theorem qcO:JU.dst=none:=by kernel_rfl
theorem kid_defg:JU.guard=none:=by kernel_rfl
theorem qes (mixed:Bool) (t:Nat):Region.schedule mixed yu t=Region.linearise.go .any yu 7 t #[false,false,false,false,false,false,false] []:=by
 have h:Region.departs yu=false:=by kernel_rfl
 have h7:yu.size=7:=by kernel_rfl
 simp only [Region.schedule,h,Bool.not_false,Bool.or_true,if_true,Region.linearise,h7]
 rfl
theorem kid_way {P':Program} {K:Sim.Cfg} {c g:Nat→Bool} (hD:qdy Γ) (Z:Sim.Cov K P' Tryz.prog c g (fun _=>False)) {Post:Value→World→Prop} {Ws:World} {R:Nat→Nat→Prop} {bs:Value}
 (hT:Sim.LT P' true (Sim.FinP P' Post) (Sim.entryG P' 62 #[bs,.int .i64 i] [Sim.c0]) Ws) (hpost:∀x w,Post x w→x=.int .i64 n)
 (hf:K.C 62) (hbs:Sim.VR K.C R bs (.agg #[x0,x1,x2,x3,x4])) {O:Nat→Prop} {w:World}
 (hF:KidF Γ cb xb ib i #[x0,x1,x2,x3,x4] O w) (hO:∀b,O b→b < w.heap.size) (hM:MW K Γ g R (fun _=>False) Ws w) :
 Work Tryz.prog Γ (.agg #[.int .i64 i,.int .i64 n]) O (born Tryz.prog (jh Γ.Wg cb ib xb)) w:=by
 refine Fan.Way.ctl rfl (kid_born Γ.Wg cb ib xb) ?_
 rw [kid_body]
 refine Fan.Way.ctl rfl (fun _=>stepG_seq) ?_
 refine Fan.Way.ctl rfl (fun _=>stepG_region) ?_
 simp only [List.size_toArray,List.length_cons,List.length_nil,Nat.reduceAdd,Nat.zero_add,List.range,List.range.loop]
 refine Fan.Way.ctl rfl (fun _=>stepG_defer (o:=JU) rfl (by unfold Region.wanted;rw [kid_defg]) (by k_ne) qeq) ?_
 rw [qcO]
 walk_nrm
 refine Fan.Way.ctl rfl (fun _=>stepG_region_end) ?_
 refine Fan.Way.draws rfl (fun _=>stepG_region_draw) (fun w₁ hr=>?_)
 rw [qes]
 have hk:Kept Γ O w w₁:=hr.kept fun _ h=>h
 exact kid_ops (i:=i) (n:=n) Z hT hpost hf hbs (fun O w hF=>kid_send hD O w hF) 7 _ false false false false false false O w₁ rfl (fun h=>by cases h) (fun h=>by cases h) (hF.kept hk hF.oi hF.oi) (fun _ b hb=>Nat.lt_of_lt_of_le (hO b hb) hk.size) (hM.kept hk)
end
end Go.Proofs.Tryz
end
section
namespace Go.Proofs.Tryz
open Go Go.Conc Go.Fan Go.RowKit Go.Conc.Lib
open Go.ConcN (WgLive)
def qaJ:Frame:=baseD 63
noncomputable def xJ:Frame:={ (default:Frame) with fn:=Tryz.prog.funcs.size,defers:=[],mode:=.panicking [goexitEntry] }
noncomputable def QJ:Code:=Tryz.f63.body.getD .skip
noncomputable def jf:Array Oper:=match QJ with | .seq (.region _ ops _) _=>ops | _=>#[]
noncomputable def xC:Array Oper:=match QJ with | .seq _ (.region _ ops _)=>ops | _=>#[]
theorem qdO:QJ=.seq (.region 0 jf false) (.region 1 xC false):=by kernel_rfl
noncomputable def qbR:Oper:=(jf[0]?).getD default
noncomputable def qaK (k:Nat):Oper:=(xC[k]?).getD default
theorem qcC:jf.size=1:=by kernel_rfl
theorem qcD:xC.size=2:=by kernel_rfl
theorem JD:jf[0]? = some qbR:=by kernel_rfl
theorem clos_at0:xC[0]? = some (qaK 0):=by kernel_rfl
theorem qbS:xC[1]? = some (qaK 1):=by kernel_rfl
theorem clos_g00:qbR.guard=none:=by kernel_rfl
theorem clos_g0:(qaK 0).guard=none:=by kernel_rfl
theorem clos_g1:(qaK 1).guard=none:=by kernel_rfl
theorem clos_d00:qbR.dst=some 2:=by kernel_rfl
theorem clos_d0:(qaK 0).dst=some 3:=by kernel_rfl
theorem JE:qbR.op=.call { callee:=.value (.func 64),args:=#[.tmp 0],argTypes:=#[97] }:=by kernel_rfl
theorem clos_op0:(qaK 0).op=.load 87 (.tmp 1):=by kernel_rfl
theorem qbT:(qaK 1).op=.call { callee:=.builtin .close,args:=#[.tmp 3],argTypes:=#[87] }:=by kernel_rfl
def xB (Wg cb:Nat):Deferred:={ target:=.fn (.func 63) #[.pointer (some ⟨Wg,0,none⟩),.pointer (some ⟨cb,0,none⟩)],args:=#[] }
theorem qdP (Wg cb:Nat) (w:World):stepG Tryz.prog false (born Tryz.prog (xB Wg cb)) w =
 .go (G (qaJ.at ⟨#[.pointer (some ⟨Wg,0,none⟩),.pointer (some ⟨cb,0,none⟩),undef,undef],[]⟩ [.code QJ]) [xJ]) w #[]:=by
 simp [born,xB,stepG,unwind,callDeferred,invoke,callFunc,Tryz.func63,Tryz.f63,seen,GStep.after,G,Frame.enter,Frame.at,qaJ,baseD,xJ,QJ]
theorem closTail (T:Array Value):QuitsD Tryz.prog 4 0 (G (qaJ.at ⟨T,[]⟩ [.inRegion xC []]) [xJ]):=by
 refine QuitsD.ctl rfl (fun _=>stepG_region_end) ?_
 refine QuitsD.ctl rfl (fun _=>stepG_end) ?_
 refine QuitsD.ctl (g':=G xJ []) rfl (fun w=>?_) ?_
 ·simp [G,stepG,unwind,doReturn,results,Frame.at,qaJ,baseD,xJ,Tryz.func63,Tryz.f63,seen,GStep.after,goexitEntry]
 refine QuitsD.ctl (g':={ G xJ [] with status:=.finished }) rfl (fun w=>?_) ⟨rfl,rfl⟩
 simp [G,stepG,unwind,xJ,goexitEntry,Frame.catches]
 rfl
theorem qdQ:(Tryz.prog.funcs[qaJ.fn]?).any (·.norace)=false:=by kernel_rfl
noncomputable def closW (Wg cb:Nat):Frame:=qaJ.at ⟨#[.pointer (some ⟨Wg,0,none⟩),.pointer (some ⟨cb,0,none⟩),undef,undef],[]⟩ [.inRegion jf [0],.code (.region 1 xC false)]
noncomputable def XK (Wg cb:Nat):Goroutine:=G (qaJ.at (Go.Act.put ⟨#[.pointer (some ⟨Wg,0,none⟩),.pointer (some ⟨cb,0,none⟩),undef,undef],[]⟩ ((jf[0]?).bind (·.dst)) (.tuple #[])) [.inRegion jf [],.code (.region 1 xC false)]) [xJ]
theorem clos_way {Γ:Ge} {cb:Nat} {w:World} {Hd:Goroutine→World→Prop} (hrun:∀g w,Hd g w→g.status=.running)
 (hIn:∀w,WgLive Γ.ty Γ.Wg w→qG Tryz.prog false Γ.ty Γ.Wg (ZR Tryz.prog false Γ.ty Γ.Wg .disable Hd) (G (Frame.enter Tryz.prog 64 #[.pointer (some ⟨Γ.Wg,0,none⟩)] .normal) [closW Γ.Wg cb,xJ]) w)
 (hRnd:∀g w,Hd g w→qG Tryz.prog false Γ.ty Γ.Wg (CLook Tryz.prog Γ Hd (XK Γ.Wg cb)) g w)
 (hcb:Γ.ro cb) (hc:w.cell? ⟨cb,0,none⟩=some (.chan (some Γ.Ch))) (hF:WgLive Γ.ty Γ.Wg w):Clos Tryz.prog Γ (born Tryz.prog (xB Γ.Wg cb)) w:=by
 refine ⟨Hd,XK Γ.Wg cb,?_,hrun,hRnd,?_⟩
 ·obtain ⟨m,hm⟩:=hIn w hF
  refine ⟨m+1+1+1+1,?_⟩
  refine Goes.step rfl (fun w₁ h₁=>?_)
  rw [qdP];simp only [goes_go]
  refine ⟨⟨rfl,rfl⟩,?_⟩
  rw [qdO]
  refine Goes.step rfl (fun w₂ h₂=>?_)
  rw [stepG_seq];simp only [goes_go]
  refine ⟨⟨rfl,rfl⟩,?_⟩
  refine Goes.step rfl (fun w₃ h₃=>?_)
  rw [stepG_region,qcC];simp only [goes_go,List.range,List.range.loop]
  refine ⟨⟨rfl,rfl⟩,?_⟩
  refine Goes.step rfl (fun w₄ h₄=>?_)
  rw [stepG_enter JD (by unfold Region.wanted;rw [clos_g00]) (by k_ne) (run_call_body JE Tryz.func64 (by kernel_rfl) (by kernel_rfl))]
  simp only [goes_go]
  refine ⟨⟨rfl,?_⟩,?_⟩
  ·unfold listed;rw [events_call_body JE Tryz.func64 (by kernel_rfl) (by kernel_rfl)];exact seen_none _ _
  ·walk_nrm
   exact Goes.rely (R:=RL Γ.ty Γ.Wg) (fun _ _ _ a b x=>b (a x)) hm (fun x=>h₄ (h₃ (h₂ (h₁ x))))
 ·unfold XK
  rw [JD]
  simp only [Option.bind_some]
  rw [clos_d00]
  walk_nrm
  refine Fan.Way.ctl rfl (fun _=>stepG_region_end) ?_
  refine Fan.Way.ctl rfl (fun _=>stepG_region) ?_
  rw [qcD]
  simp only [List.range,List.range.loop]
  refine Fan.Way.load1 clos_at0 clos_g0 (by k_ne) clos_op0 rfl Tryz.isAgg87 (.inl hcb) hc ?_
  rw [clos_d0]
  walk_nrm
  refine Fan.Way.stop fun w₁ hr=>⟨rfl,?_,fun s r tm hch=>?_⟩
  ·simp [mayWake,G,Frame.at,qbS,qbT]
  ·rw [stepG_close qbS (by unfold Region.wanted;rw [clos_g1]) (by k_ne) qbT rfl hch qdQ]
   exact ⟨_,_,rfl,closTail _⟩
end Go.Proofs.Tryz
end
section
namespace Go.Proofs.Tryz
open Go Go.Conc Go.Fan
open Go.ConcN (upd WgLive)
def nb:Frame:=base 15
abbrev ptr (b:Nat):Value:=.pointer (some ⟨b,0,none⟩)
structure NW (Γ:Ge) (w0:World) (bb cb xb:Nat) (cells:Array Value) (w:World):Prop where
 rb:Γ.ro bb
 rc:Γ.ro cb
 rx:Γ.ro xb
 bk:∃e f ys,w.heap[bb]? = some (.cells ys e f)∧∀ga l c,cells[4]? = some (.slice ga l c)→∃ga' c',ys[4]? = some (.slice ga' l c')
 xk:∃e f,w.heap[xb]? = some (.cells cells e f)
 ch:w.cell? ⟨cb,0,none⟩=some (.chan (some Γ.Ch))
 wg:Γ.Wg < Γ.B0
 base:Γ.B0≤w.heap.size
 live:WgLive Γ.ty Γ.Wg w
 k0:Kept Γ (fun _=>False) w0 w
section
variable {Γ:Ge} {w0:World} {bb cb xb:Nat} {cells:Array Value} {w w₁:World} {O F:Nat→Prop}
theorem Kept.mono {F F':Nat→Prop} (h:Kept Γ F w w₁) (hF:∀b,F' b→F b):Kept Γ F' w w₁:=⟨h.size,fun b hb ho=>h.keep b hb (ho.imp id (hF b)),h.live⟩
theorem NW.kept (h:NW Γ w0 bb cb xb cells w) (k:Kept Γ F w w₁):NW Γ w0 bb cb xb cells w₁ :=
 ⟨h.rb,h.rc,h.rx,let ⟨e,f,ys,x,y⟩:=h.bk;⟨e,f,ys,k.block (.inl h.rb) x,y⟩,let ⟨e,f,x⟩:=h.xk;⟨e,f,k.block (.inl h.rx) x⟩,k.cell (.inl h.rc) h.ch,h.wg,Nat.le_trans h.base k.size,k.live h.live,h.k0.trans (Kept.mono k fun _ h=>h.elim)⟩
theorem NW.ry (h:NW Γ w0 bb cb xb cells w) (k:Ry Γ O w w₁):NW Γ w0 bb cb xb cells w₁:=h.kept (k.kept fun _ h=>h)
theorem NW.new (h:NW Γ w0 bb cb xb cells w):¬ Γ.ro w.heap.size∧w.heap.size≠Γ.Wg∧Γ.Wg < w.heap.size:=by
 have:=h.base
 have:=h.wg
 exact ⟨fun x=>by have:=x.1;omega,by omega,by omega⟩
theorem NW.cell4 {x0 x1 x2 x3:Value} {ga:Option Addr} {l c:Nat} (h:NW Γ w0 bb cb xb #[x0,x1,x2,x3,.slice ga l c] w):∃ga' c',w.cell? ⟨bb,4,none⟩=some (.slice ga' l c'):=by
 obtain ⟨e,f,ys,x,y⟩:=h.bk
 obtain ⟨ga',c',hy⟩:=y ga l c rfl
 exact ⟨ga',c',by simp [World.cell?,x,hy]⟩
end
structure NV (Γ:Ge) (bb cb xb:Nat) (v:Nat→Value):Prop where
 v1:v 1=ptr bb
 v4:v 4=ptr xb
 v5:v 5=ptr cb
 v6:v 6=ptr Γ.Wg
theorem NV.upd {Γ:Ge} {bb cb xb:Nat} {v:Nat→Value} {k:Nat} {x:Value} (h:NV Γ bb cb xb v) (hk:6 < k):NV Γ bb cb xb (upd v k x):=by
 refine ⟨?_,?_,?_,?_⟩ <;> rw [ConcN.upd_ne _ _ (by omega)]
 ·exact h.v1
 ·exact h.v4
 ·exact h.v5
 ·exact h.v6
theorem Yl.way {Γ:Ge} {main:Bool} {Stop:(Nat→Prop)→Goroutine→World→Prop} {O:Nat→Prop} {w:World} {b:Frame} {v:Nat→Value} {ds:List Deferred} {kk:List Item} {cs:List Frame} {ops:Array Oper} {i d:Nat} {rest:List Nat} {o:Oper} {x:Value}
 (y:Yl (Go.Act.eval ⟨nT v,ds⟩) o x) (ho:ops[i]? = some o) (hg:o.guard=none) (hk:b.kind≠.early) (hd:o.dst=some d) (hl:d < 43)
 (k:Fan.Way Tryz.prog main Γ false Stop O (G (b.at ⟨nT (upd v d x),ds⟩ (.inRegion ops rest :: kk)) cs) w):Fan.Way Tryz.prog main Γ false Stop O (G (b.at ⟨nT v,ds⟩ (.inRegion ops (i :: rest) :: kk)) cs) w:=by
 refine .value x ho (by unfold Region.wanted;rw [hg]) hk (fun w=>(y w).1) (fun w=>(y w).2) ?_
 rw [hd,yc hl]
 exact k
end Go.Proofs.Tryz
end
section
namespace Go.Proofs.Tryz
open Go Go.Conc Go.Fan
open Go.ConcN (upd WgLive)
section
variable {ev:Operand→Value} {cb xb ib wg:Nat}
theorem y12_1 (h:ev (.tmp 27)=.func (.func 63) #[] #[ptr wg,ptr cb]) (w:World):(execOp ev (nO 12 1)).run Tryz.prog w=.ok (.spawn (xB wg cb)) w∧(execOp ev (nO 12 1)).events Tryz.prog w #[]=#[]:=by
 unfold execOp;rw [n_op12_1];simp only [h];constructor
 ·simp [resolve,Deferred.ofValue,h,xB]
 ·simp [resolve,Deferred.ofValue,h]
theorem y10_1 (h:ev (.tmp 25)=.func (.func 60) #[] #[ptr wg,ptr cb,ptr ib,ptr xb]) (w:World):(execOp ev (nO 10 1)).run Tryz.prog w=.ok (.spawn (jh wg cb ib xb)) w∧(execOp ev (nO 10 1)).events Tryz.prog w #[]=#[]:=by
 unfold execOp;rw [n_op10_1];simp only [h];constructor
 ·simp [resolve,Deferred.ofValue,h,jh]
 ·simp [resolve,Deferred.ofValue,h]
end
theorem msp_as (P:Program) (Γ:Ge) (n:Nat) (mv:Nat→Value) (z:Value) (Anch:(Nat→Prop)→Goroutine→World→Prop) (r:Nat):∃S,MSp P Γ n mv z Anch r=Fan.Way P true Γ false S:=by
 cases r <;> exact ⟨_,rfl⟩
def mv (ans:Nat→Int) (i:Nat):Value:=.agg #[.int .i64 i,.int .i64 (ans i)]
noncomputable def headG (v:Nat→Value) (cs:List Frame):Goroutine:=G (nb.at ⟨nT v,[]⟩ [.code nL1,.inLoop nL1,.inBlock 0,.code nTl]) cs
section
variable {Γ:Ge} {w0:World} {bb cb xb n cap:Nat} {ga:Option Addr} {x0 x1 x2 x3:Value} {ans:Nat→Int} {z:Value} {Anch:(Nat→Prop)→Goroutine→World→Prop} {cs:List Frame}
theorem qH:nb.kind≠.early:=by intro h;cases h
theorem qcl {main:Bool} {b:Frame} {v:Nat→Value} {ds:List Deferred} {kk:List Item} {ops:Array Oper} {i:Nat} {rest:List Nat} {o:Oper} {w:World} {f:Fn} {c aa:Array Value} (ho:ops[i]? = some o) (hg:o.guard=none) (hk:b.kind≠.early)
 (hr:(execOp (Go.Act.eval ⟨nT v,ds⟩) o).run Tryz.prog w=.ok (.spawn ⟨.fn f c,aa⟩) w) (he:(execOp (Go.Act.eval ⟨nT v,ds⟩) o).events Tryz.prog w #[]=#[]) (hd:o.dst=none) :
 stepG Tryz.prog main (G (b.at ⟨nT v,ds⟩ (.inRegion ops (i :: rest) :: kk)) cs) w=.spawn (G (b.at ⟨nT v,ds⟩ (.inRegion ops rest :: kk)) cs) (born Tryz.prog ⟨.fn f c,aa⟩) w #[]:=by
 rw [stepG_spawn ho (by unfold Region.wanted;rw [hg]) hk hr rfl,hd,QA]
 congr 1
 unfold listed;rw [he];exact seen_none _ _
theorem qcU (hn:n < 9223372036854775807)
 (hKid:∀i < n,∀ib w,KidF Γ cb xb ib i #[x0,x1,x2,x3,.slice ga n cap] (fun b=>b=ib) w→ib < w.heap.size→Kept Γ (fun _=>False) w0 w→Work Tryz.prog Γ (mv ans i) (fun b=>b=ib) (born Tryz.prog (jh Γ.Wg cb ib xb)) w)
 (hAdd:∀(b₀:Frame) (a₀:Go.Act) (ops₀:Array Oper) (i₀:Nat) (rest₀:List Nat) (k₀:List Item) (cs:List Frame) (w:World),WgLive Γ.ty Γ.Wg w→qG Tryz.prog true Γ.ty Γ.Wg (ZT Tryz.prog true Γ.ty Γ.Wg (G (b₀.at (a₀.put ((ops₀[i₀]?).bind (·.dst)) (.tuple #[])) (.inRegion ops₀ rest₀ :: k₀)) cs))
   (G (Frame.enter Tryz.prog 59 #[ptr Γ.Wg,.int .i64 1] .normal) (b₀.at a₀ (.inRegion ops₀ (i₀ :: rest₀) :: k₀) :: cs)) w)
 (hClos:∀w,NW Γ w0 bb cb xb #[x0,x1,x2,x3,.slice ga n cap] w→Clos Tryz.prog Γ (born Tryz.prog (xB Γ.Wg cb)) w)
 (hRcv:∀v w,NW Γ w0 bb cb xb #[x0,x1,x2,x3,.slice ga n cap] w→NV Γ bb cb xb v→MRcv Tryz.prog Γ n (mv ans) z Anch n [] (fun _=>False) (G (nb.at ⟨nT v,[]⟩ [.inRegion nO12 [],.code (.seq (.region 13 nO13 false) (.seq nB nE))]) cs) w) :
 ∀(r:Nat) (v:Nat→Value) (w:World),r≤n→NW Γ w0 bb cb xb #[x0,x1,x2,x3,.slice ga n cap] w→NV Γ bb cb xb v→v 20=.int .i64 n→v 21=.int .i64 ((n - r:Nat):Int) →
  MSp Tryz.prog Γ n (mv ans) z Anch r (fun _=>False) (headG v cs) w:=by
 intro r
 induction r with
 | zero =>
   intro v w hr hW hV h20 h21
   show Fan.Way _ _ _ _ _ _ _ _
   unfold headG
   rw [n_L1]
   refine .ctl rfl (fun _=>stepG_seq) ?_
   refine .ctl rfl (fun _=>stepG_region) ?_
   rw [qeL]
   simp only [List.range,List.range.loop]
   refine Yl.way (y7_0 (a:=n) (b:=n) (by rw [ql (by decide),h21];rfl) (by rw [ql (by decide),h20])) qeG n_g7_0 qH n_d7_0 (by decide) ?_
   refine .ctl rfl (fun _=>stepG_region_end) ?_
   refine .ctl rfl (fun _=>stepG_seq) ?_
   refine .ctl rfl (fun _=>stepG_cond (t:=false) (by rw [ql (by decide)];simp [upd])) ?_
   simp only [Bool.false_eq_true,if_false]
   refine .ctl rfl (fun _=>stepG_exit rfl) ?_
   rw [n_Tl]
   refine .ctl rfl (fun _=>stepG_seq) ?_
   refine .ctl rfl (fun _=>stepG_region) ?_
   rw [n_size12]
   simp only [List.range,List.range.loop]
   have hV:=hV.upd (k:=22) (x:=.bool (decide ((n:Int) < n))) (by decide)
   refine Yl.way (y12_0 (by rw [ql (by decide)];exact hV.v6) (by rw [ql (by decide)];exact hV.v5)) n_at12_0 n_g12_0 qH n_d12_0 (by decide) ?_
   have hV:=hV.upd (k:=27) (x:=.func (.func 63) #[] #[ptr Γ.Wg,ptr cb]) (by decide)
   refine .stop fun w₁ hr=>?_
   have hW:=hW.ry hr
   have hy:=y12_1 (ev:=Go.Act.eval ⟨nT (upd (upd v 22 (.bool (decide ((n:Int) < n)))) 27 (.func (.func 63) #[] #[ptr Γ.Wg,ptr cb])),[]⟩) (wg:=Γ.Wg) (cb:=cb) (by rw [ql (by decide)];simp [upd]) w₁
   refine ⟨rfl,_,born Tryz.prog (xB Γ.Wg cb),(qcl n_at12_1 n_g12_1 qH hy.1 hy.2 n_d12_1),rfl,hClos w₁ hW,hRcv _ w₁ hW hV⟩
 | succ r ih =>
   intro v w hr hW hV h20 h21
   obtain ⟨i,hi⟩:∃i,i=n - (r+1):=⟨_,rfl⟩
   rw [← hi] at h21
   obtain ⟨S,hS⟩:=msp_as Tryz.prog Γ n (mv ans) z Anch r
   show Fan.Way _ _ _ _ _ _ _ _
   unfold headG
   rw [n_L1]
   refine .ctl rfl (fun _=>stepG_seq) ?_
   refine .ctl rfl (fun _=>stepG_region) ?_
   rw [qeL]
   simp only [List.range,List.range.loop]
   refine Yl.way (y7_0 (a:=i) (b:=n) (by rw [ql (by decide),h21]) (by rw [ql (by decide),h20])) qeG n_g7_0 qH n_d7_0 (by decide) ?_
   refine .ctl rfl (fun _=>stepG_region_end) ?_
   refine .ctl rfl (fun _=>stepG_seq) ?_
   have hlt:(i:Int) < n:=by omega
   refine .ctl rfl (fun _=>stepG_cond (t:=true) (by rw [ql (by decide)];simp [upd,hlt])) ?_
   simp only [if_true]
   refine .ctl rfl (fun _=>stepG_skip) ?_
   refine .ctl rfl (fun _=>stepG_seq) ?_
   refine .ctl rfl (fun _=>stepG_block) ?_
   rw [n_X]
   refine .ctl rfl (fun _=>stepG_seq) ?_
   refine .ctl rfl (fun _=>stepG_region) ?_
   rw [n_size8]
   simp only [List.range,List.range.loop]
   refine Yl.way (y8_0 (x:=.int .i64 i) (by rw [ql (by decide)];simp [upd,h21])) n_at8_0 n_g8_0 qH n_d8_0 (by decide) ?_
   refine .alloc n_at8_1 n_g8_1 qH n_op8_1 Tryz.zeroValue3 (fun w₁ hr₁=>?_)
   rw [n_d8_1,yc (by decide)]
   have hW:=hW.ry hr₁
   have hnew:=hW.new
   obtain ⟨ib,hib⟩:∃ib,ib=w₁.heap.size:=⟨_,rfl⟩
   have hW:=hW.kept (Kept.alloc (F:=fun _=>False) w₁ (.cells (Value.int .i64 0).cells 3 (0,0)) hnew.2.2)
   have hcell:(w₁.alloc (.cells (Value.int .i64 0).cells 3 (0,0))).heap[ib]? = some (.cells #[.int .i64 0] 3 (0,0)):=by rw [hib];show (w₁.heap.push _)[w₁.heap.size]? = _;simp [Value.cells]
   rw [← hib] at hnew ⊢
   have hsz:ib < (w₁.alloc (.cells (Value.int .i64 0).cells 3 (0,0))).heap.size:=(Array.getElem?_eq_some_iff.1 hcell).1
   generalize w₁.alloc (.cells (Value.int .i64 0).cells 3 (0,0))=w₂ at hW hcell hsz ⊢
   refine .store1 (ad:=⟨ib,0,none⟩) (v:=i) (u:=.int .i64 0) n_at8_2 n_g8_2 qH n_op8_2 (by rw [ql (by decide)];simp [upd]) (by rw [ql (by decide)];simp [upd]) Tryz.sizeOf3 (.inr rfl) (by simp [World.cell?,hcell]) (fun w₃ e=>?_) (fun w₃ hr₃=>?_)
   ·have e':w₃.heap[ib]? = _:=e.trans hcell
    simp [World.frozen?,e']
   have hW:=hW.ry hr₃
   have hcell:=hr₃.block (.inr (.inr rfl)) hcell
   have hW:=hW.kept (Kept.set (F:=fun _=>False) w₃ ⟨ib,0,none⟩ (.int .i64 i) hnew.1 (fun x=>x) hnew.2.1)
   have hcell':(w₃.setCell ⟨ib,0,none⟩ (.int .i64 i)).heap[ib]? = some (.cells #[.int .i64 i] 3 (0,0)):=by
    rw [setCell_eq_setRow w₃ ib 0 _ _ (0,0) _ hcell,setRow_heap w₃ ib _ _ _ _ hcell];rfl
   clear hcell
   generalize w₃.setCell ⟨ib,0,none⟩ (.int .i64 i)=w₄ at hW hcell' ⊢
   rw [n_d8_2,QA]
   refine .ctl rfl (fun _=>stepG_region_end) ?_
   refine .ctl rfl (fun _=>stepG_seq) ?_
   refine .ctl rfl (fun _=>stepG_region) ?_
   rw [n_size9]
   simp only [List.range,List.range.loop]
   have hV:=((hV.upd (k:=22) (x:=.bool (decide ((i:Int) < n))) (by decide)).upd (k:=23) (x:=.int .i64 i) (by decide)).upd (k:=7) (x:=ptr ib) (by decide)
   have h20:upd (upd (upd v 22 (.bool (decide ((i:Int) < n)))) 23 (.int .i64 i)) 7 (ptr ib) 20=.int .i64 n:=by simp [upd,h20]
   have h21:upd (upd (upd v 22 (.bool (decide ((i:Int) < n)))) 23 (.int .i64 i)) 7 (ptr ib) 21=.int .i64 i:=by simp [upd,h21]
   have h7:upd (upd (upd v 22 (.bool (decide ((i:Int) < n)))) 23 (.int .i64 i)) 7 (ptr ib) 7=ptr ib:=by simp [upd]
   generalize upd (upd (upd v 22 (.bool (decide ((i:Int) < n)))) 23 (.int .i64 i)) 7 (ptr ib)=u at hV h20 h21 h7 ⊢
   refine .enter qeH (by unfold Region.wanted;rw [n_g9_0]) qH n_op9_0 Tryz.func59 (by kernel_rfl) (by kernel_rfl) ?_
   have ea:(#[Operand.tmp 6,Operand.const (.int .i64 1)].map (Go.Act.eval ⟨nT u,[]⟩))=#[ptr Γ.Wg,.int .i64 1]:=by
    simp only [List.map_toArray,List.map_cons,List.map_nil,ql (show 6 < 43 by decide),hV.v6]
    rfl
   rw [ea]
   have hway:Fan.Way Tryz.prog true Γ false (MGo Tryz.prog Γ (mv ans) (n - (r+1)) (MSp Tryz.prog Γ n (mv ans) z Anch r)) (fun b=>False∨b=ib)
    (G (nb.at (Go.Act.put ⟨nT u,[]⟩ ((nO9[0]?).bind (·.dst)) (.tuple #[])) [.inRegion nO9 [],.code (.region 10 nO10 false),.inBlock 1,.code (.region 11 nO11 false),.inLoop nL1,.inBlock 0,.code nTl]) cs) w₄:=by
    rw [qeH]
    simp only [Option.bind_some]
    rw [n_d9_0,yc (by decide)]
    refine .ctl rfl (fun _=>stepG_region_end) ?_
    refine .ctl rfl (fun _=>stepG_region) ?_
    rw [n_size10]
    simp only [List.range,List.range.loop]
    have hV:=hV.upd (k:=24) (x:=.tuple #[]) (by decide)
    have h20:upd u 24 (.tuple #[]) 20=.int .i64 n:=by simp [upd,h20]
    have h21:upd u 24 (.tuple #[]) 21=.int .i64 i:=by simp [upd,h21]
    have h7:upd u 24 (.tuple #[]) 7=ptr ib:=by simp [upd,h7]
    generalize upd u 24 (.tuple #[])=u at hV h20 h21 h7 ⊢
    refine Yl.way (y10_0 (by rw [ql (by decide)];exact hV.v6) (by rw [ql (by decide)];exact hV.v5) (by rw [ql (by decide)];exact h7) (by rw [ql (by decide)];exact hV.v4)) n_at10_0 n_g10_0 qH n_d10_0 (by decide) ?_
    have hV:=hV.upd (k:=25) (x:=.func (.func 60) #[] #[ptr Γ.Wg,ptr cb,ptr ib,ptr xb]) (by decide)
    have h20:upd u 25 (.func (.func 60) #[] #[ptr Γ.Wg,ptr cb,ptr ib,ptr xb]) 20=.int .i64 n:=by simp [upd,h20]
    have h21:upd u 25 (.func (.func 60) #[] #[ptr Γ.Wg,ptr cb,ptr ib,ptr xb]) 21=.int .i64 i:=by simp [upd,h21]
    have h25:upd u 25 (.func (.func 60) #[] #[ptr Γ.Wg,ptr cb,ptr ib,ptr xb]) 25=.func (.func 60) #[] #[ptr Γ.Wg,ptr cb,ptr ib,ptr xb]:=by simp [upd]
    generalize upd u 25 (.func (.func 60) #[] #[ptr Γ.Wg,ptr cb,ptr ib,ptr xb])=u at hV h20 h21 h25 ⊢
    refine .stop fun w₅ hr₅=>?_
    have hW:=hW.ry hr₅
    have hcell:=hr₅.block (.inr (.inr rfl)) hcell'
    have hy:=y10_1 (ev:=Go.Act.eval ⟨nT u,[]⟩) (wg:=Γ.Wg) (cb:=cb) (ib:=ib) (xb:=xb) (by rw [ql (by decide)];exact h25) w₅
    have hnext:MSp Tryz.prog Γ n (mv ans) z Anch r (fun b=>(False∨b=ib)∧¬ b=ib) (G (nb.at ⟨nT u,[]⟩ [.inRegion nO10 [],.inBlock 1,.code (.region 11 nO11 false),.inLoop nL1,.inBlock 0,.code nTl]) cs) w₅:=by
     rw [hS]
     have e:(fun _:Nat=>False)=fun b=>(False∨b=ib)∧¬ b=ib:=funext fun b=>propext ⟨False.elim,fun (h:(False∨b=ib)∧¬ b=ib)=>h.2 (h.1.resolve_left id)⟩
     refine Fan.Way.cast e.symm ?_
     refine .ctl rfl (fun _=>stepG_region_end) ?_
     refine .ctl rfl (fun _=>stepG_inBlock) ?_
     refine .ctl rfl (fun _=>stepG_region) ?_
     rw [n_size11]
     simp only [List.range,List.range.loop]
     refine Yl.way (y11_0 (a:=i) (by rw [ql (by decide)];exact h21) rfl (by rw [IntKind.wrap_i64];omega)) n_at11_0 n_g11_0 qH n_d11_0 (by decide) ?_
     refine Yl.way (y11_1 (x:=.int .i64 ((i:Int)+1)) (by rw [ql (by decide)];simp [upd])) n_at11_1 n_g11_1 qH n_d11_1 (by decide) ?_
     refine .ctl rfl (fun _=>stepG_region_end) ?_
     refine .ctl rfl (fun _=>stepG_inLoop) ?_
     rw [← hS]
     refine ih _ w₅ (by omega) hW ((hV.upd (by decide)).upd (by decide)) (by simp [upd,h20]) ?_
     simp only [upd,if_true]
     congr 1
     omega
    refine ⟨rfl,_,born Tryz.prog (jh Γ.Wg cb ib xb),fun b=>b=ib,(qcl n_at10_1 n_g10_1 qH hy.1 hy.2 n_d10_1),rfl,fun b hb=>.inr hb,?_,hnext⟩
    rw [← hi]
    exact hKid i (by omega) ib w₅ ⟨hW.rc,hW.rx,rfl,hW.ch,hW.xk,by simp [World.cell?,hcell],Nat.lt_of_lt_of_le hW.wg hW.base,hW.live⟩ (Array.getElem?_eq_some_iff.1 hcell).1 hW.k0
   exact (Fan.Way.of_thence (X:=fun w=>Fan.Way Tryz.prog true Γ false (MGo Tryz.prog Γ (mv ans) (n - (r+1)) (MSp Tryz.prog Γ n (mv ans) z Anch r)) (fun b=>False∨b=ib) _ w) (hAdd nb ⟨nT u,[]⟩ nO9 0 [] _ cs w₄ hW.live) (fun w₁ hr=>hway.rely hr)).mono fun O' g w ⟨h1,h2,h3⟩=>h2▸⟨_,h1,h3⟩
end
end Go.Proofs.Tryz
end
section
namespace Go.Proofs.Tryz
open Go Go.Conc Go.Fan
open Go.ConcN (upd WgLive)
section
variable {ev:Operand→Value} {n:Nat} {ch:Nat}
theorem y13_3 (h:ev (.tmp 30)=.int .i64 n) (hn:n≤1000) (w:World) :
 (execOp ev (nO 13 3)).run Tryz.prog w=.ok (.value (.slice (some ⟨w.heap.size,0,none⟩) n n)) (w.alloc (.cells (madeCells #[.int .i64 0] n) 3))∧(execOp ev (nO 13 3)).events Tryz.prog w #[]=#[]:=by
 have hi:Tryz.prog.info? 3=some ((Tryz.prog.info? 3).getD default):=by kernel_rfl
 have hs:((Tryz.prog.info? 3).getD default).size=1:=by kernel_rfl
 have hby:((Tryz.prog.info? 3).getD default).bytes=8:=by kernel_rfl
 have hz:((Tryz.prog.info? 3).getD default).zero=some (.int .i64 0):=by kernel_rfl
 generalize (Tryz.prog.info? 3).getD default=inf at hi hs hby hz
 have hr:=run_makeSlice (P:=Tryz.prog) w 33 3 inf (.int .i64 0) Tryz.underlying33 hi hz .i64 .i64 (n:Int) n (by omega) (by omega) (by rw [hs];omega) (by rw [hby];omega) (by omega)
 rw [hs] at hr
 unfold execOp;rw [n_op13_3];simp only [h]
 constructor
 ·simp [hr,Value.cells]
 ·have wl:IntKind.i64.wrap (n:Int)=n:=by rw [IntKind.wrap_i64];omega
  have n1:¬ (n:Int) < 0:=by omega
  have n2:¬ (281474976710656 < (8:Int) * n):=by omega
  have n3:¬ roomBytes < n * 8:=by unfold roomBytes;omega
  by_cases h0:n=0
  ·subst h0
   simp [Instr.makeSlice,asInt,asIntOf,typeInfo,hi,sizeOf,hby,hs,askRoom,newRow,Sem.events_bind,run_underlying (Tryz.underlying33),IntKind.wrap_i64,n3]
  ·simp [Instr.makeSlice,asInt,asIntOf,typeInfo,hi,sizeOf,zeroValue,hz,wl,n1,n2,n3,hby,hs,askRoom,h0,newRow,Sem.events_bind,run_underlying (Tryz.underlying33)]
def yX:Value:=.agg #[.int .i64 0,.int .i64 0]
theorem y15_0 (h:ev (.tmp 32)=.chan (some ch)) (w:World) :
 (execOp ev (nO 15 0)).run Tryz.prog w=.ok (.comm #[rcase ch yX] true (.recv true)) w∧(execOp ev (nO 15 0)).events Tryz.prog w #[]=#[]:=by
 unfold execOp;rw [n_op15_0];simp only [h]
 constructor
 ·simp [go_sem,rcase,yX]
 ·simp [go_sem]
end
end Go.Proofs.Tryz
end
section
namespace Go.Proofs.Tryz
open Go Go.Conc Go.Fan
open Go.ConcN (upd WgLive)
theorem JL:∀(n:Nat) (l:List Nat),l.Nodup→(∀x∈l,x < n)→n≤l.length→∀j,j < n→j∈l
 | 0,_,_,_,_=>fun _ h=>absurd h (Nat.not_lt_zero _)
 | n+1,l,hd,hl,hn=>by
   have hE:∀x∈l.erase n,x < n:=fun x hx=>by
    have h1:=hl x (List.mem_of_mem_erase hx)
    have h2:x≠n:=fun e=>by subst e;exact (List.Nodup.not_mem_erase hd) hx
    omega
   have hlen:n≤(l.erase n).length:=by
    rw [List.length_erase]
    split <;> omega
   have ih:=JL n (l.erase n) (hd.erase n) hE hlen
   intro j hj
   by_cases e:j=n
   ·subst e
    by_cases hm:j∈l
    ·exact hm
    ·exfalso
     rw [List.erase_of_not_mem hm] at ih hE hlen
     have hb:∀(m:Nat) (l:List Nat),l.Nodup→(∀x∈l,x < m)→l.length≤m:=by
      intro m
      induction m with
      | zero =>
        intro l _ h
        cases l with
        | nil=>simp
        | cons a l=>exact absurd (h a (by simp)) (Nat.not_lt_zero _)
      | succ m ihm =>
        intro l h1 h2
        have h3:∀x∈l.erase m,x < m:=fun x hx=>by
         have a1:=h2 x (List.mem_of_mem_erase hx)
         have a2:x≠m:=fun e=>by subst e;exact (List.Nodup.not_mem_erase h1) hx
         omega
        have:=ihm (l.erase m) (h1.erase m) h3
        rw [List.length_erase] at this
        split at this <;> omega
     have:=hb j l hd hE
     omega
   ·exact List.mem_of_mem_erase (ih j (by omega))
def yC (sb n:Nat) (ans:Nat→Int) (got:List Nat) (w:World):Prop :=
 ∃arr:Array Value,w.heap[sb]? = some (.cells arr 3 (0,0))∧arr.size=n∧∀j,j < n→arr[j]? = some (.int .i64 (if j∈got then ans j else 0))
theorem yC.block {sb n:Nat} {ans:Nat→Int} {got:List Nat} {w w₁:World} (h:yC sb n ans got w) (e:w₁.heap[sb]? = w.heap[sb]?):yC sb n ans got w₁ :=
 let ⟨arr,h1,h2,h3⟩:=h;⟨arr,e.trans h1,h2,h3⟩
theorem yC.lt {sb n:Nat} {ans:Nat→Int} {got:List Nat} {w:World} (h:yC sb n ans got w):sb < w.heap.size:=let ⟨_,h1,_⟩:=h;(Array.getElem?_eq_some_iff.1 h1).1
theorem yC.ry {Γ:Ge} {O:Nat→Prop} {sb n:Nat} {ans:Nat→Int} {got:List Nat} {w w₁:World} (h:yC sb n ans got w) (hO:O sb) (r:Ry Γ O w w₁):yC sb n ans got w₁:=h.block (r.keep sb h.lt (.inr hO))
theorem yC.put {sb n i:Nat} {ans:Nat→Int} {got:List Nat} {w:World} (h:yC sb n ans got w) (hi:i < n):yC sb n ans (i :: got) (w.setCell ⟨sb,i,none⟩ (.int .i64 (ans i))):=by
 obtain ⟨arr,h1,h2,h3⟩:=h
 refine ⟨arr.setIfInBounds i (.int .i64 (ans i)),?_,by simpa using h2,fun j hj=>?_⟩
 ·rw [setCell_eq_setRow w sb i _ _ (0,0) _ h1,setRow_heap w sb _ _ _ _ h1]
 ·by_cases e:j=i
  ·subst e
   rw [Array.getElem?_setIfInBounds_self_of_lt (by omega)]
   simp
  ·rw [Array.getElem?_setIfInBounds_ne (Ne.symm e),h3 j hj]
   simp [e]
theorem yC.all {sb n:Nat} {ans:Nat→Int} {got:List Nat} {w:World} (h:yC sb n ans got w) (hg:∀j,j < n→j∈got):w.heap[sb]? = some (.cells ((Array.range n).map fun j=>.int .i64 (ans j)) 3 (0,0)):=by
 obtain ⟨arr,h1,h2,h3⟩:=h
 rw [h1]
 congr 2
 apply Array.ext_getElem?
 intro j
 rcases Nat.lt_or_ge j n with hj | hj
 ·rw [h3 j hj,if_pos (hg j hj)];simp [hj]
 ·rw [Array.getElem?_eq_none (by omega),Array.getElem?_eq_none (by simp;omega)]
noncomputable def QH:List Item:=[.code (.seq (.cond (.tmp 34) .skip (.exit 2)) (.block 3 nY)),.inLoop nL2,.inBlock 2,.code nE]
def Jz (Γ:Ge) (n:Nat) (ans:Nat→Int) (cs:List Frame) (_:Nat→Prop) (g:Goroutine) (w:World):Prop :=
 ∃v sb,g=G (nb.at ⟨nT v,[]⟩ (.inRegion nO15 [1] :: QH)) cs∧v 33=.tuple #[yX,.bool false]∧v 2=.slice (some ⟨sb,0,none⟩) n n∧Γ.B0≤sb ∧
  w.heap[sb]? = some (.cells ((Array.range n).map fun j=>.int .i64 (ans j)) 3 (0,0))
noncomputable def head2 (v:Nat→Value) (cs:List Frame):Goroutine:=G (nb.at ⟨nT v,[]⟩ [.code nL2,.inLoop nL2,.inBlock 2,.code nE]) cs
section
variable {Γ:Ge} {w0:World} {bb cb xb n:Nat} {cells:Array Value} {ans:Nat→Int} {cs:List Frame}
theorem qfq {v:Nat→Value} {rest:List Nat} {kk:List Item} (h32:v 32=.chan (some Γ.Ch)) (w:World) :
 stepG Tryz.prog true (G (nb.at ⟨nT v,[]⟩ (.inRegion nO15 (0 :: rest) :: kk)) cs) w=.comm (core (G (nb.at ⟨nT v,[]⟩ (.inRegion nO15 (0 :: rest) :: kk)) cs)) #[rcase Γ.Ch yX] true (.recv true) w #[]:=by
 have hy:=y15_0 (ev:=Go.Act.eval ⟨nT v,[]⟩) (ch:=Γ.Ch) (by rw [ql (by decide)];exact h32) w
 have e:listed Tryz.prog nb.fn ⟨nT v,[]⟩ (nO 15 0) w=#[]:=by unfold listed;rw [hy.2];exact seen_none _ _
 rw [stepG_comm Jd (by unfold Region.wanted;rw [n_g15_0]) qH hy.1,e,core_G]
theorem Way.recode {P:Program} {main:Bool} {Stop:(Nat→Prop)→Goroutine→World→Prop} {O:Nat→Prop} {w:World} {b:Frame} {a:Go.Act} {kk:List Item} {c c':Code} (e:c=c') (k:Fan.Way P main Γ false Stop O (G (b.at a (.code c' :: kk)) cs) w):Fan.Way P main Γ false Stop O (G (b.at a (.code c :: kk)) cs) w:=e▸k
theorem qeC {sb:Nat} (hsb:Γ.B0≤sb):∀(r:Nat) (got:List Nat) (v:Nat→Value) (O:Nat→Prop) (w:World),got.Nodup→(∀x∈got,x < n)→got.length+r=n→v 2=.slice (some ⟨sb,0,none⟩) n n→v 32=.chan (some Γ.Ch)→O sb →
 yC sb n ans got w→Γ.B0≤w.heap.size→MRcv Tryz.prog Γ n (mv ans) yX (Jz Γ n ans cs) r got O (head2 v cs) w:=by
 intro r
 induction r with
 | zero =>
   intro got v O w hd hl hr h2 h32 hO hF hB
   unfold head2
   refine Way.recode n_L2 ?_
   refine .ctl rfl (fun _=>stepG_seq) ?_
   refine .ctl rfl (fun _=>stepG_region) ?_
   rw [qcd]
   simp only [List.range,List.range.loop]
   refine .stop fun w₁ hr₁=>⟨rfl,qfq h32 w₁,?_⟩
   show Jz Γ n ans cs O (Conc.served _ _) w₁
   rw [served_G,Jd]
   simp only [Option.bind_some]
   rw [qeI,yc (by decide)]
   exact ⟨_,sb,rfl,by simp [upd,recvd],by simp [upd,h2],hsb,(hF.ry hO hr₁).all (JL n got hd hl (by omega))⟩
 | succ r ih =>
   intro got v O w hd hl hr h2 h32 hO hF hB
   unfold head2
   refine Way.recode n_L2 ?_
   refine .ctl rfl (fun _=>stepG_seq) ?_
   refine .ctl rfl (fun _=>stepG_region) ?_
   rw [qcd]
   simp only [List.range,List.range.loop]
   refine .stop fun w₁ hr₁=>⟨rfl,qfq h32 w₁,fun i hi hn=>?_⟩
   have hF:=hF.ry hO hr₁
   have hB:=Nat.le_trans hB hr₁.size
   rw [served_G,Jd]
   simp only [Option.bind_some]
   rw [qeI,yc (by decide)]
   show Fan.Way _ _ _ _ _ _ _ _
   have h2:upd v 33 (recvd true (mv ans i) true) 2=.slice (some ⟨sb,0,none⟩) n n:=by simp [upd,h2]
   have h32:upd v 33 (recvd true (mv ans i) true) 32=.chan (some Γ.Ch):=by simp [upd,h32]
   have h33:upd v 33 (recvd true (mv ans i) true) 33=.tuple #[mv ans i,.bool true]:=by simp [upd,recvd]
   generalize upd v 33 (recvd true (mv ans i) true)=u at h2 h32 h33 ⊢
   refine Yl.way (y15_1 (x:=mv ans i) (y:=.bool true) (by rw [ql (by decide)];exact h33)) qcc qeK qH qeJ (by decide) ?_
   refine .ctl rfl (fun _=>stepG_region_end) ?_
   refine .ctl rfl (fun _=>stepG_seq) ?_
   refine .ctl rfl (fun _=>stepG_cond (t:=true) (by rw [ql (by decide)];simp [upd])) ?_
   simp only [if_true]
   refine .ctl rfl (fun _=>stepG_skip) ?_
   refine .ctl rfl (fun _=>stepG_block) ?_
   refine Way.recode n_Y ?_
   refine .ctl rfl (fun _=>stepG_seq) ?_
   refine .ctl rfl (fun _=>stepG_region) ?_
   rw [n_size16]
   simp only [List.range,List.range.loop]
   refine Yl.way (y16_0 (x:=mv ans i) (y:=.bool true) (by rw [ql (by decide)];simp [upd,h33])) n_at16_0 n_g16_0 qH n_d16_0 (by decide) ?_
   refine .alloc n_at16_1 n_g16_1 qH n_op16_1 Tryz.zeroValue101 (fun w₂ hr₂=>?_)
   rw [n_d16_1,yc (by decide)]
   have hF:=hF.ry hO hr₂
   have hB:=Nat.le_trans hB hr₂.size
   obtain ⟨tb,htb⟩:∃tb,tb=w₂.heap.size:=⟨_,rfl⟩
   have hne:sb≠tb:=by have:=hF.lt;omega
   have hF:=hF.block (RowKit.Below.heap_alloc w₂ (.cells (Value.agg #[.int .i64 0,.int .i64 0]).cells 101 (0,0)) sb hF.lt)
   have hB:=Nat.le_trans hB (Nat.le_of_lt (show w₂.heap.size < (w₂.alloc (.cells (Value.agg #[.int .i64 0,.int .i64 0]).cells 101 (0,0))).heap.size by rw [World.size_alloc];omega))
   have hcell:(w₂.alloc (.cells (Value.agg #[.int .i64 0,.int .i64 0]).cells 101 (0,0))).heap[tb]? = some (.cells #[.int .i64 0,.int .i64 0] 101 (0,0)):=by rw [htb];show (w₂.heap.push _)[w₂.heap.size]? = _;simp [Value.cells]
   rw [← htb]
   clear htb
   generalize w₂.alloc (.cells (Value.agg #[.int .i64 0,.int .i64 0]).cells 101 (0,0))=w₃ at hF hB hcell ⊢
   refine .store2 (bk:=tb) (v0:=i) (v1:=ans i) n_at16_2 n_g16_2 qH n_op16_2 (by rw [ql (by decide)];simp [upd]) (by rw [ql (by decide)];simp [upd,mv]) Tryz.sizeOf101 (.inr rfl) hcell (fun w₄ w₅ hr₄ hA₅ hcell=>?_)
   have hF:=(hF.ry (.inl hO) hr₄).block (hA₅.block sb hne)
   have hB:=Nat.le_trans hB (Nat.le_trans hr₄.size (Nat.le_of_eq hA₅.size.symm))
   rw [n_d16_2,QA]
   refine .ctl rfl (fun _=>stepG_region_end) ?_
   refine .ctl rfl (fun _=>stepG_region) ?_
   rw [n_size17]
   simp only [List.range,List.range.loop]
   have h8:upd (upd (upd u 34 (.bool true)) 35 (mv ans i)) 8 (ptr tb) 8=ptr tb:=by simp [upd]
   have h2:upd (upd (upd u 34 (.bool true)) 35 (mv ans i)) 8 (ptr tb) 2=.slice (some ⟨sb,0,none⟩) n n:=by simp [upd,h2]
   have h32:upd (upd (upd u 34 (.bool true)) 35 (mv ans i)) 8 (ptr tb) 32=.chan (some Γ.Ch):=by simp [upd,h32]
   generalize upd (upd (upd u 34 (.bool true)) 35 (mv ans i)) 8 (ptr tb)=u at h2 h32 h8 ⊢
   refine Yl.way (y17_0 (x:=.slice (some ⟨sb,0,none⟩) n n) (by rw [ql (by decide)];exact h2)) n_at17_0 n_g17_0 qH n_d17_0 (by decide) ?_
   refine Yl.way (y17_1 (bb:=tb) (by rw [ql (by decide)];simp [upd,h8])) n_at17_1 n_g17_1 qH n_d17_1 (by decide) ?_
   refine .load1 (ad:=⟨tb,0,none⟩) (v:=.int .i64 i) n_at17_2 n_g17_2 qH n_op17_2 (by rw [ql (by decide)];simp [upd]) Tryz.isAgg3 (.inr (.inr rfl)) (by simp [World.cell?,hcell]) ?_
   rw [n_d17_2,yc (by decide)]
   refine Yl.way (y17_3 (bb:=tb) (by rw [ql (by decide)];simp [upd,h8])) n_at17_3 n_g17_3 qH n_d17_3 (by decide) ?_
   refine .load1 (ad:=⟨tb,1,none⟩) (v:=.int .i64 (ans i)) n_at17_4 n_g17_4 qH n_op17_4 (by rw [ql (by decide)];simp [upd]) Tryz.isAgg3 (.inr (.inr rfl)) (by simp [World.cell?,hcell]) ?_
   rw [n_d17_4,yc (by decide)]
   refine Yl.way (y17_5 (bb:=sb) (n:=n) (i:=i) (by rw [ql (by decide)];simp [upd]) (by rw [ql (by decide)];simp [upd]) hi) n_at17_5 n_g17_5 qH n_d17_5 (by decide) ?_
   obtain ⟨arr,ha1,ha2,ha3⟩:=hF
   refine .store1 (ad:=⟨sb,i,none⟩) (v:=ans i) (u:=.int .i64 (if i∈got then ans i else 0)) n_at17_6 n_g17_6 qH n_op17_6 (by rw [ql (by decide)];simp [upd]) (by rw [ql (by decide)];simp [upd]) Tryz.sizeOf3 (.inl hO) (by simp only [World.cell?,ha1];exact ha3 i hi) (fun w₆ e=>?_) (fun w₆ hr₆=>?_)
   ·have e':w₆.heap[sb]? = _:=e.trans ha1
    simp [World.frozen?,e']
   have hF:=(yC.ry (Γ:=Γ) (O:=fun b=>O b∨b=tb) ⟨arr,ha1,ha2,ha3⟩ (.inl hO) hr₆).put hi
   have hB:=Nat.le_trans hB hr₆.size
   rw [n_d17_6,QA]
   refine .ctl rfl (fun _=>stepG_region_end) ?_
   refine .ctl rfl (fun _=>stepG_inBlock) ?_
   refine .ctl rfl (fun _=>stepG_inLoop) ?_
   exact ih (i :: got) _ _ _ (List.nodup_cons.2 ⟨hn,hd⟩) (fun x hx=>(List.mem_cons.1 hx).elim (fun e=>e▸hi) (hl x)) (by simp;omega) (by simp [upd,h2]) (by simp [upd,h32]) (.inl hO) hF (by rw [show (w₆.setCell ⟨sb,i,none⟩ (.int .i64 (ans i))).heap.size=w₆.heap.size from (aside_setCell _ _ _).size];exact hB)
theorem main_rcv {cap:Nat} {ga:Option Addr} {x0 x1 x2 x3:Value} (hn:n≤1000) (v:Nat→Value) (w:World) (hW:NW Γ w0 bb cb xb #[x0,x1,x2,x3,.slice ga n cap] w) (hV:NV Γ bb cb xb v) :
 MRcv Tryz.prog Γ n (mv ans) yX (Jz Γ n ans cs) n [] (fun _=>False) (G (nb.at ⟨nT v,[]⟩ [.inRegion nO12 [],.code (.seq (.region 13 nO13 false) (.seq nB nE))]) cs) w:=by
 obtain ⟨S,hS⟩:∃S,S=Xb Tryz.prog Γ n (mv ans) yX (Jz Γ n ans cs) n []:=⟨_,rfl⟩
 unfold MRcv
 rw [← hS]
 refine .ctl rfl (fun _=>stepG_region_end) ?_
 refine .ctl rfl (fun _=>stepG_seq) ?_
 refine .ctl rfl (fun _=>stepG_region) ?_
 rw [n_size13]
 simp only [List.range,List.range.loop]
 refine Yl.way (y13_0 (bb:=bb) (by rw [ql (by decide)];exact hV.v1)) n_at13_0 n_g13_0 qH n_d13_0 (by decide) ?_
 have hV:=hV.upd (k:=28) (x:=.pointer (some ⟨bb,4,none⟩)) (by decide)
 have h28:upd v 28 (.pointer (some ⟨bb,4,none⟩)) 28=.pointer (some ⟨bb,4,none⟩):=by simp [upd]
 generalize upd v 28 (.pointer (some ⟨bb,4,none⟩))=u at hV h28 ⊢
 obtain ⟨ga',cap',h4⟩:=hW.cell4
 refine .load1 (ad:=⟨bb,4,none⟩) (v:=.slice ga' n cap') n_at13_1 n_g13_1 qH n_op13_1 (by rw [ql (by decide)];exact h28) Tryz.isAgg24 (.inl hW.rb) h4 ?_
 rw [n_d13_1,yc (by decide)]
 refine Yl.way (y13_2 (ga:=ga') (n:=n) (cap:=cap') (by rw [ql (by decide)];simp [upd])) n_at13_2 n_g13_2 qH n_d13_2 (by decide) ?_
 have hV:=(hV.upd (k:=29) (x:=.slice ga' n cap') (by decide)).upd (k:=30) (x:=.int .i64 n) (by decide)
 have h30:upd (upd u 29 (.slice ga' n cap')) 30 (.int .i64 n) 30=.int .i64 n:=by simp [upd]
 generalize upd (upd u 29 (.slice ga' n cap')) 30 (.int .i64 n)=u at hV h30 ⊢
 have hy:=y13_3 (ev:=Go.Act.eval ⟨nT u,[]⟩) (n:=n) (by rw [ql (by decide)];exact h30) hn
 refine .gen n_at13_3 (by unfold Region.wanted;rw [n_g13_3]) qH (fun w₁ hr₁ K hK=>?_)
 rw [(hy w₁).1]
 refine hK _ _ ?_ ?_
 ·rw [listed_nil (hy w₁).2];exact Gy.alloc _ (by simp)
 rw [jZ,n_d13_3,yc (by decide)]
 have hW:=hW.ry hr₁
 have hB:=hW.base
 obtain ⟨sb,hsb⟩:∃sb,sb=w₁.heap.size:=⟨_,rfl⟩
 have hF:yC sb n ans [] (w₁.alloc (.cells (madeCells #[.int .i64 0] n) 3)):=by
  refine ⟨madeCells #[.int .i64 0] n,?_,size_madeCells _ _,fun j hj=>?_⟩
  ·rw [hsb];show (w₁.heap.push _)[w₁.heap.size]? = _;simp
  ·simp [madeCells,hj,Nat.mod_one]
 have hW:=hW.kept (Kept.alloc (F:=fun _=>False) w₁ (.cells (madeCells #[.int .i64 0] n) 3) hW.new.2.2)
 rw [← hsb] at hB ⊢
 generalize w₁.alloc (.cells (madeCells #[.int .i64 0] n) 3)=w₂ at hW hF ⊢
 refine Yl.way (y13_4 (x:=.slice (some ⟨sb,0,none⟩) n n) (by rw [ql (by decide)];simp [upd])) n_at13_4 n_g13_4 qH n_d13_4 (by decide) ?_
 have h2:upd (upd u 31 (.slice (some ⟨sb,0,none⟩) n n)) 2 (.slice (some ⟨sb,0,none⟩) n n) 2=.slice (some ⟨sb,0,none⟩) n n:=by simp [upd]
 have h5:upd (upd u 31 (.slice (some ⟨sb,0,none⟩) n n)) 2 (.slice (some ⟨sb,0,none⟩) n n) 5=ptr cb:=by
  have:=hV.v5
  simp [upd,this]
 generalize upd (upd u 31 (.slice (some ⟨sb,0,none⟩) n n)) 2 (.slice (some ⟨sb,0,none⟩) n n)=u at h2 h5 ⊢
 refine .ctl rfl (fun _=>stepG_region_end) ?_
 refine .ctl rfl (fun _=>stepG_seq) ?_
 refine Way.recode n_B ?_
 refine .ctl rfl (fun _=>stepG_seq) ?_
 refine .ctl rfl (fun _=>stepG_region) ?_
 rw [n_size14]
 simp only [List.range,List.range.loop]
 refine .load1 (ad:=⟨cb,0,none⟩) (v:=.chan (some Γ.Ch)) n_at14_0 n_g14_0 qH n_op14_0 (by rw [ql (by decide)];exact h5) Tryz.isAgg87 (.inl hW.rc) hW.ch ?_
 rw [n_d14_0,yc (by decide)]
 refine .ctl rfl (fun _=>stepG_region_end) ?_
 refine .ctl rfl (fun _=>stepG_block) ?_
 refine .ctl rfl (fun _=>stepG_loop) ?_
 rw [hS]
 exact qeC hB n [] _ _ w₂ List.nodup_nil (fun x hx=>by cases hx) (by simp) (by simp [upd,h2]) (by simp [upd]) (.inr rfl) hF hW.base
end
end Go.Proofs.Tryz
end
namespace Go.Fan
open Go Go.Instr Go.Conc Go.ConcN
section
variable {P:Program} {main:Bool} {Γ:Ge} {Stop:(Nat→Prop)→Goroutine→World→Prop} {O:Nat→Prop} {w:World}
variable {b:Frame} {a:Go.Act} {kk:List Item} {cs:List Frame} {ops:Array Oper} {i:Nat} {rest:List Nat} {o:Oper}
theorem Way.box {t:TypeId} {x:Operand} {z:Value} (ho:ops[i]? = some o) (hg:o.guard=none) (hk:b.kind≠.early) (hop:o.op=.box t x) (hx:a.eval x=z)
 (k:∀w₁,Ry Γ O w w₁→Way P main Γ false Stop (fun b=>O b∨b=w₁.heap.size) (G (b.at (a.put o.dst (.pointer (some ⟨w₁.heap.size,0,none⟩))) (.inRegion ops rest :: kk)) cs) (w₁.alloc (.cells z.cells t (0,0)))):Way P main Γ false Stop O (G (b.at a (.inRegion ops (i :: rest) :: kk)) cs) w :=
 .gen ho (by unfold Region.wanted;rw [hg]) hk fun w₁ h K hK=>by
  have hr:(execOp a.eval o).run P w₁=.ok (.value (.pointer (some ⟨w₁.heap.size,0,none⟩))) (w₁.alloc (.cells z.cells t (0,0))):=by
   unfold execOp
   simp only [hop,hx]
   simp [Instr.box,newVar,newRow,go_sem]
  have he:(execOp a.eval o).events P w₁ #[]=#[]:=by
   unfold execOp
   simp only [hop,hx]
   simp [Instr.box,newVar,newRow,go_sem]
  rw [hr]
  refine hK _ _ ?_ ?_
  ·rw [listed_nil he];exact Gy.alloc _ (by simp)
  ·rw [jZ];exact k w₁ h
theorem Way.chan {t e:TypeId} {dir:ChanDir} {inf:TypeInfo} {n:Nat} {x:Operand} (ho:ops[i]? = some o) (hg:o.guard=none) (hk:b.kind≠.early) (hop:o.op=.makeChan t x) (hx:a.eval x=.int .i64 n) (ht:P.underlying t=some (.chan dir e)) (hi:P.info? e=some inf) (h63:(n:Int)≤9223372036854775807) (hb:(inf.bytes:Int) * n≤281474976710544)
 (k:∀w₁,Ry Γ O w w₁→Way P main Γ false Stop (fun b=>O b∨b=w₁.heap.size) (G (b.at (a.put o.dst (.chan (some w₁.heap.size))) (.inRegion ops rest :: kk)) cs) (w₁.alloc (.chan n #[] false 0 0 false))):Way P main Γ false Stop O (G (b.at a (.inRegion ops (i :: rest) :: kk)) cs) w :=
 .gen ho (by unfold Region.wanted;rw [hg]) hk fun w₁ h K hK=>by
  have hr:(execOp a.eval o).run P w₁=.ok (.value (.chan (some w₁.heap.size))) (w₁.alloc (.chan n #[] false 0 0 false)):=by
   unfold execOp
   simp only [hop,hx]
   rw [Sem.run_bind,run_makeChan ht hi .i64 n h63 hb]
   rfl
  have he:(execOp a.eval o).events P w₁ #[]=#[]:=by
   unfold execOp
   simp only [hop,hx]
   rw [Sem.events_bind,run_makeChan ht hi .i64 n h63 hb,events_makeChan ht hi .i64 n h63 hb]
   rfl
  rw [hr]
  refine hK _ _ ?_ ?_
  ·rw [listed_nil he];exact Gy.alloc _ (by simp)
  ·rw [jZ];exact k w₁ h
theorem Way.storeC {t e:TypeId} {x y:Operand} {bk:Nat} {c:Nat} {u:Value} (ho:ops[i]? = some o) (hg:o.guard=none) (hk:b.kind≠.early) (hop:o.op=.store t x y) (hx:a.eval x=.pointer (some ⟨bk,0,none⟩)) (hy:a.eval y=.chan (some c)) (hsz:∀w,(sizeOf t).run P w=.ok 1 w)
 (hO:O bk) (hc:w.heap[bk]? = some (.cells #[u] e (0,0)))
 (k:∀w₁ w₂,Ry Γ O w w₁→Aside bk w₁ w₂→w₂.heap[bk]? = some (.cells #[.chan (some c)] e (0,0))→Way P main Γ false Stop O (G (b.at (a.put o.dst undef) (.inRegion ops rest :: kk)) cs) w₂):Way P main Γ false Stop O (G (b.at a (.inRegion ops (i :: rest) :: kk)) cs) w :=
 .gen ho (by unfold Region.wanted;rw [hg]) hk fun w₁ h K hK=>by
  have hlt:=(Array.getElem?_eq_some_iff.1 hc).1
  have hc1:=(h.keep bk hlt (.inr hO)).trans hc
  have c0:w₁.cell? ⟨bk,0,none⟩=some u:=by simp [World.cell?,hc1]
  have z0:w₁.frozen? ⟨bk,0,none⟩=false:=by simp [World.frozen?,hc1]
  have hc2:(w₁.setCell ⟨bk,0,none⟩ (.chan (some c))).heap[bk]? = some (.cells #[.chan (some c)] e (0,0)):=by
   rw [setCell_eq_setRow w₁ bk 0 _ e (0,0) _ hc1,setRow_heap w₁ bk _ _ e _ hc1];rfl
  have hr:(execOp a.eval o).run P w₁=.ok .skip (w₁.setCell ⟨bk,0,none⟩ (.chan (some c))):=by
   unfold execOp
   simp only [hop,hx,hy]
   simp [go_sem,stored,c0,z0,hsz]
  have he:(execOp a.eval o).events P w₁ #[]=#[⟨.cell ⟨bk,0,none⟩,true,false⟩]:=by
   unfold execOp
   simp only [hop,hx,hy]
   simp [go_sem,storedEv,c0,z0,hsz]
  have hA:=aside_setCell w₁ ⟨bk,0,none⟩ (.chan (some c))
  rw [hr]
  refine hK _ _ (Gy.set hO fun e hm=>?_) ?_
  ·have:=mem_listed hm
   rw [he] at this
   simp at this
   subst this
   exact QK (.inr (.inl hO)) (Nat.lt_of_lt_of_le hlt h.size)
  ·rw [Zy];exact k w₁ _ h hA hc2
theorem Way.store5 {t e:TypeId} {x y:Operand} {bk:Nat} {v0 v1 v2 v3:Int} {v4:Option Addr} {l c:Nat} {u0 u1 u2 u3 u4:Value} (ho:ops[i]? = some o) (hg:o.guard=none) (hk:b.kind≠.early) (hop:o.op=.store t x y) (hx:a.eval x=.pointer (some ⟨bk,0,none⟩)) (hy:a.eval y=.agg #[.int .i64 v0,.int .i64 v1,.int .i64 v2,.int .i64 v3,.slice v4 l c]) (hsz:∀w,(sizeOf t).run P w=.ok 5 w)
 (hO:O bk) (hc:w.heap[bk]? = some (.cells #[u0,u1,u2,u3,u4] e (0,0)))
 (k:∀w₁ w₂,Ry Γ O w w₁→Aside bk w₁ w₂→w₂.heap[bk]? = some (.cells #[.int .i64 v0,.int .i64 v1,.int .i64 v2,.int .i64 v3,.slice v4 l c] e (0,0))→Way P main Γ false Stop O (G (b.at (a.put o.dst undef) (.inRegion ops rest :: kk)) cs) w₂):Way P main Γ false Stop O (G (b.at a (.inRegion ops (i :: rest) :: kk)) cs) w :=
 .gen ho (by unfold Region.wanted;rw [hg]) hk fun w₁ h K hK=>by
  have hlt:=(Array.getElem?_eq_some_iff.1 hc).1
  have hc0:=(h.keep bk hlt (.inr hO)).trans hc
  obtain ⟨wa,ea⟩:∃wa,wa=w₁.setCell ⟨bk,0,none⟩ (.int .i64 v0):=⟨_,rfl⟩
  obtain ⟨wb,eb⟩:∃wb,wb=wa.setCell ⟨bk,1,none⟩ (.int .i64 v1):=⟨_,rfl⟩
  obtain ⟨wc,ec⟩:∃wc,wc=wb.setCell ⟨bk,2,none⟩ (.int .i64 v2):=⟨_,rfl⟩
  obtain ⟨wd,ed⟩:∃wd,wd=wc.setCell ⟨bk,3,none⟩ (.int .i64 v3):=⟨_,rfl⟩
  have hc1:wa.heap[bk]? = some (.cells #[.int .i64 v0,u1,u2,u3,u4] e (0,0)):=by rw [ea,setCell_eq_setRow _ bk 0 _ e (0,0) _ hc0,setRow_heap _ bk _ _ e _ hc0];rfl
  have hc2:wb.heap[bk]? = some (.cells #[.int .i64 v0,.int .i64 v1,u2,u3,u4] e (0,0)):=by rw [eb,setCell_eq_setRow _ bk 1 _ e (0,0) _ hc1,setRow_heap _ bk _ _ e _ hc1];rfl
  have hc3:wc.heap[bk]? = some (.cells #[.int .i64 v0,.int .i64 v1,.int .i64 v2,u3,u4] e (0,0)):=by rw [ec,setCell_eq_setRow _ bk 2 _ e (0,0) _ hc2,setRow_heap _ bk _ _ e _ hc2];rfl
  have hc4:wd.heap[bk]? = some (.cells #[.int .i64 v0,.int .i64 v1,.int .i64 v2,.int .i64 v3,u4] e (0,0)):=by rw [ed,setCell_eq_setRow _ bk 3 _ e (0,0) _ hc3,setRow_heap _ bk _ _ e _ hc3];rfl
  have hc5:(wd.setCell ⟨bk,4,none⟩ (.slice v4 l c)).heap[bk]? = some (.cells #[.int .i64 v0,.int .i64 v1,.int .i64 v2,.int .i64 v3,.slice v4 l c] e (0,0)):=by rw [setCell_eq_setRow _ bk 4 _ e (0,0) _ hc4,setRow_heap _ bk _ _ e _ hc4];rfl
  have c0:w₁.cell? ⟨bk,0,none⟩=some u0:=by simp [World.cell?,hc0]
  have c1:wa.cell? ⟨bk,1,none⟩=some u1:=by simp [World.cell?,hc1]
  have c2:wb.cell? ⟨bk,2,none⟩=some u2:=by simp [World.cell?,hc2]
  have c3:wc.cell? ⟨bk,3,none⟩=some u3:=by simp [World.cell?,hc3]
  have c4:wd.cell? ⟨bk,4,none⟩=some u4:=by simp [World.cell?,hc4]
  have z0:w₁.frozen? ⟨bk,0,none⟩=false:=by simp [World.frozen?,hc0]
  have z1:wa.frozen? ⟨bk,1,none⟩=false:=by simp [World.frozen?,hc1]
  have z2:wb.frozen? ⟨bk,2,none⟩=false:=by simp [World.frozen?,hc2]
  have z3:wc.frozen? ⟨bk,3,none⟩=false:=by simp [World.frozen?,hc3]
  have z4:wd.frozen? ⟨bk,4,none⟩=false:=by simp [World.frozen?,hc4]
  have ad:∀n,(⟨bk,0,none⟩:Addr).add n=⟨bk,n,none⟩:=fun n=>by unfold Addr.add;split <;> simp_all
  have hr:(execOp a.eval o).run P w₁=.ok .skip (wd.setCell ⟨bk,4,none⟩ (.slice v4 l c)):=by
   unfold execOp
   simp only [hop,hx,hy]
   simp [go_sem,stored,c0,z0,hsz,ad,← ea,c1,z1,← eb,c2,z2,← ec,c3,z3,← ed,c4,z4]
  have he:∀ev∈(execOp a.eval o).events P w₁ #[],∃n,ev=⟨.cell ⟨bk,n,none⟩,true,false⟩:=by
   unfold execOp
   simp only [hop,hx,hy]
   intro ev hev
   simp [go_sem,stored,storedEv,c0,z0,hsz,ad,← ea,c1,z1,← eb,c2,z2,← ec,c3,z3,← ed,c4,z4] at hev
   rcases hev with h | h | h | h | h <;> exact ⟨_,h⟩
  have hA:Aside bk w₁ (wd.setCell ⟨bk,4,none⟩ (.slice v4 l c)):=by
   have h1:=aside_setCell w₁ ⟨bk,0,none⟩ (.int .i64 v0)
   rw [← ea] at h1
   have h2:=aside_setCell wa ⟨bk,1,none⟩ (.int .i64 v1)
   rw [← eb] at h2
   have h3:=aside_setCell wb ⟨bk,2,none⟩ (.int .i64 v2)
   rw [← ec] at h3
   have h4:=aside_setCell wc ⟨bk,3,none⟩ (.int .i64 v3)
   rw [← ed] at h4
   exact (((h1.trans h2).trans h3).trans h4).trans (aside_setCell wd ⟨bk,4,none⟩ (.slice v4 l c))
  rw [hr]
  refine hK _ _ ⟨Nat.le_of_eq hA.size.symm,fun b _ hb=>hA.block b fun e=>hb (e▸hO),hA.tape,hA.os,hA.output,fun ev hm=>?_⟩ ?_
  ·obtain ⟨n,rfl⟩:=he ev (mem_listed hm)
   rw [hA.size]
   exact QK (.inr (.inl hO)) (Nat.lt_of_lt_of_le hlt h.size)
  ·rw [yn hA.size];exact k w₁ _ h hA hc5
end
end Go.Fan
