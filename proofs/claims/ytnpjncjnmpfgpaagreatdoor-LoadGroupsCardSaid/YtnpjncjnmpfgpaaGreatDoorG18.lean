/-
  Lemmas about the program and the machine (FanDone to FanBeside), upon which the last text of this claim rests; no condition.
-/
import Derived.Test.YtnpjncjnmpfgpaaGreatDoorG17
import Derived.Test.YtnpjncjnmpfgpaaGreatDoorG16
set_option linter.unusedSimpArgs false
set_option linter.unusedVariables false
section
namespace Go.Fan
open Go Go.Conc Go.ConcN Go.RowKit Go.Conc.Lib Go.ConcR.Gen Go.ConcN.Gen
open Go.ConcR (KK wgBlock WgAt stA smA rd wr mk DC0)
section
variable {P:Program} {main:Bool} {ty:TypeId} {Wg:Nat} {Stop:Goroutine→World→Prop} {w:World}
theorem qG.ctl {g g':Goroutine} (hs:g.status=.running) (h:∀w,stepG P main g w=.go g' w #[]) (k:qG P main ty Wg Stop g' w):qG P main ty Wg Stop g w :=
 let ⟨m,hm⟩:=k
 ⟨m+1,Goes.step hs fun w₁ hr=>by
   rw [h,goes_go]
   exact ⟨⟨rfl,rfl⟩,Goes.rely (R:=RL ty Wg) (fun _ _ _ a b x=>b (a x)) hm hr⟩⟩
variable {b:Frame} {a:Go.Act} {kk:List Item} {cs:List Frame} {ops:Array Oper} {i:Nat} {rest:List Nat} {o:Oper}
theorem qG.value (v:Value) (ho:ops[i]? = some o) (hw:Region.wanted o (yielded ops a.tmps)=true) (hk:b.kind≠.early) (hr:∀w,(execOp a.eval o).run P w=.ok (.value v) w) (he:∀w,(execOp a.eval o).events P w #[]=#[])
 (k:qG P main ty Wg Stop (G (b.at (a.put o.dst v) (.inRegion ops rest :: kk)) cs) w):qG P main ty Wg Stop (G (b.at a (.inRegion ops (i :: rest) :: kk)) cs) w :=
 .ctl rfl (fun w=>by rw [stepG_value ho hw hk (hr w),listed_nil (he w)]) k
theorem qG.enter {f:FuncId} {fn:Func} {args:Array Operand} {ats:Array TypeId} (ho:ops[i]? = some o) (hw:Region.wanted o (yielded ops a.tmps)=true) (hk:b.kind≠.early) (hop:o.op=.call { callee:=.value (.func f),args,argTypes:=ats })
 (hf:P.funcs[f]? = some fn) (hname:(fn.name == "runtime.NumGoroutine")=false) (hb:fn.body.isNone=false)
 (k:qG P main ty Wg Stop (G (Frame.enter P f (args.map a.eval) .normal) (b.at a (.inRegion ops (i :: rest) :: kk) :: cs)) w):qG P main ty Wg Stop (G (b.at a (.inRegion ops (i :: rest) :: kk)) cs) w :=
 .ctl rfl (fun w=>by
  rw [stepG_enter ho hw hk (run_call_body hop hf hname hb)]
  have:listed P b.fn a o w=#[]:=by unfold listed;rw [events_call_body hop hf hname hb];exact seen_none P _
  rw [this]) k
end
section
variable {L:WgLink} {P:Program} {B0 Wg Ch:Nat} {S₀:Nat→Prop} {c:Frame} {cs:List Frame} {qt:Nat}
set_option maxRecDepth 100000 in
theorem doneDown (H:WgLib P L) (hcm:c.mode=.returning) (hT:QuitsD P qt 0 (G c cs)) (w:World) (hF:WgLive L.tWg Wg w) :
 qG P false L.tWg Wg (WRel P ⟨B0,Wg,Ch,L.tWg,S₀⟩) (G ((baseD L.done).at ⟨#[.pointer (some ⟨Wg,0,none⟩),undef,undef,undef],[]⟩ [.code (body_done L)]) (c :: cs)) w:=by
 simp only [body_done,doneFn,Option.getD_some]
 refine qG.ctl rfl (fun _=>stepG_region) ?_
 simp only [List.size_toArray,List.length_cons,List.length_nil,Nat.reduceAdd,Nat.zero_add,List.range,List.range.loop]
 refine qG.value _ rfl rfl (by k_ne) (fun _=>by go_simp <;> rfl) (fun _=>by simp [go_sem]) ?_
 walk_nrm
 refine qG.enter rfl rfl (by k_ne) rfl H.f_add (nm_add L) rfl ?_
 rw [enter_at _ H.f_add (c:=body_add L) rfl]
 walk_nrmf addFn
 refine addDown H (qt:=qt+3) ?_ w hF
 q_c stepG_region_end
 q_c stepG_end
 exact QuitsD.leaveD rfl rfl H.f_done rfl hcm hT
end
end Go.Fan
end
section
namespace Go.Proofs.Tryz
open Go Go.Conc Go.Fan Go.Conc.Lib Go.ConcR.Gen Go.ConcN.Gen
open Go.ConcN (WgLive)
set_option maxRecDepth 100000 in
theorem lib_add {Γ:Ge} (hty:Γ.ty=97) (b₀:Frame) (a₀:Go.Act) (ops₀:Array Oper) (i₀:Nat) (rest₀:List Nat) (k₀:List Item) (cs:List Frame) (w:World) (h:WgLive Γ.ty Γ.Wg w) :
 qG Tryz.prog true Γ.ty Γ.Wg (ZT Tryz.prog true Γ.ty Γ.Wg (G (b₀.at (a₀.put ((ops₀[i₀]?).bind (·.dst)) (.tuple #[])) (.inRegion ops₀ rest₀ :: k₀)) cs))
  (G (Frame.enter Tryz.prog 59 #[.pointer (some ⟨Γ.Wg,0,none⟩),.int .i64 1] .normal) (b₀.at a₀ (.inRegion ops₀ (i₀ :: rest₀) :: k₀) :: cs)) w:=by
 have hA:=addUp (P:=Tryz.prog) (main:=true) (Wg:=Γ.Wg) (b₀:=b₀) (a₀:=a₀) (ops₀:=ops₀) (i₀:=i₀) (rest₀:=rest₀) (k₀:=k₀) (cs:=cs) Tryz.wgLib w (by rw [hty] at h;exact h)
 rw [hty,enter_at _ Tryz.func59 (c:=body_add Tryz.link) (by kernel_rfl)]
 walk_nrmf Tryz.f59
 exact hA
set_option maxRecDepth 100000 in
theorem qcQ {Γ:Ge} (hty:Γ.ty=97) (c:Frame) (cs:List Frame) (w:World) (h:WgLive Γ.ty Γ.Wg w) :
 qG Tryz.prog false Γ.ty Γ.Wg (ZR Tryz.prog false Γ.ty Γ.Wg .disable (Head Tryz.link Γ.Wg c cs)) (G (Frame.enter Tryz.prog 64 #[.pointer (some ⟨Γ.Wg,0,none⟩)] .normal) (c :: cs)) w:=by
 have hA:=waitIn (P:=Tryz.prog) (main:=false) (Wg:=Γ.Wg) (c:=c) (cs:=cs) Tryz.wgLib w (by rw [hty] at h;exact h)
 rw [hty,enter_at _ Tryz.func64 (c:=body_wait Tryz.link) (by kernel_rfl)]
 walk_nrmf Tryz.f64
 exact hA
theorem lib_clos {Γ:Ge} {cb:Nat} {w:World} (hty:Γ.ty=97) (hcb:Γ.ro cb) (hc:w.cell? ⟨cb,0,none⟩=some (.chan (some Γ.Ch))) (hF:WgLive Γ.ty Γ.Wg w):Clos Tryz.prog Γ (born Tryz.prog (xB Γ.Wg cb)) w:=by
 refine clos_way (Hd:=Head Tryz.link Γ.Wg (closW Γ.Wg cb) [xJ]) (fun g w h=>?_) (fun w h=>qcQ hty _ _ w h) (fun g w h=>?_) hcb hc hF
 ·obtain ⟨T,rfl,_⟩:=h;rfl
 ·have:=waitRound (P:=Tryz.prog) (B0:=Γ.B0) (Wg:=Γ.Wg) (Ch:=Γ.Ch) (S₀:=Γ.S) Tryz.wgLib g w h
  obtain ⟨B0,Wg,Ch,ty,S⟩:=Γ
  simp only at hty
  subst hty
  exact this
theorem lib_done {Γ:Ge} (hty:Γ.ty=97):qdy Γ:=fun T w h=>by
 obtain ⟨B0,Wg,Ch,ty,S⟩:=Γ
 simp only at hty
 subst hty
 exact doneDown (P:=Tryz.prog) (B0:=B0) (Wg:=Wg) (Ch:=Ch) (S₀:=S) (c:={ kidB.at ⟨T,[]⟩ [] with mode:=.returning }) (cs:=[jw]) (qt:=2) Tryz.wgLib rfl (kidTail T) w h
end Go.Proofs.Tryz
end
section
namespace Go.Fan
open Go Go.Conc Go.ConcN
open Go.ConcR (KK wgBlock WgAt stA smA rd wr mk DC0 g_of_ofEvents)
section
variable {P:Program} {Γ:Ge} {L n:Nat} {mv:Nat→Value} {z:Value} {Anch:(Nat→Prop)→Goroutine→World→Prop}
def Nx (P:Program) (Γ:Ge) (L n:Nat) (mv:Nat→Value) (z:Value) (Anch:(Nat→Prop)→Goroutine→World→Prop) (w0:World) (c:Cf) (t:Trace) (r:Stepped×Array MemOp):Prop :=
 ∃c' gs' w' sl' ops,r=(.next (crowd gs' w' sl'),ops)∧Lt3 (L+n+1) (μ n c') (μ n c)∧Inv P Γ L n mv z Anch w0 c' gs' w' (t ++ ops)
theorem JS {c c':Cf} (h:c'.C=.none↔c.C=.none):isN c'=isN c:=by
 by_cases e:c.C=.none
 ·rw [isN,isN,if_pos e,if_pos (h.2 e)]
 ·rw [isN,isN,if_neg e,if_neg (fun x=>e (h.1 x))]
theorem Jl {c c':Cf} (h:c'.C=.none↔c.C=.none):sg L n c'=sg L n c:=by
 by_cases e:c.C=.none
 ·rw [sg,sg,if_pos e,if_pos (h.2 e)]
 ·rw [sg,sg,if_neg e,if_neg (fun x=>e (h.1 x))]
theorem xM {c c':Cf} (hj:c'.j=c.j) (h:c'.C=.none↔c.C=.none):Act L n c'=Act L n c:=by
 funext k;unfold Act;rw [hj];simp only [ne_eq,h]
theorem Acq.app {t u:Trace} {q:Nat} (h:Acq Γ L n t q) (hu:∀i r,i < n→RelBy (stA Γ.Wg) t (L+i) r→RelBy (stA Γ.Wg) (t ++ u) (L+i) r):Acq Γ L n (t ++ u) q:=by
 obtain ⟨h1,h2,h3,h4⟩:=h
 have hq:=lt_of_act? h1
 exact ⟨by rw [act?_old hq];exact h1,by rw [g?_old hq];exact h2,(heard_old hq).2 h3,fun i hi=>let ⟨r,hr,hrq⟩:=h4 i hi;⟨r,hu i r hi hr,hrq⟩⟩
theorem Cls.app {t u:Trace} (h:Cls Γ L n t) (hu:∀i r,i < n→RelBy (stA Γ.Wg) t (L+i) r→RelBy (stA Γ.Wg) (t ++ u) (L+i) r) (hc:∀op∈u,op.g=L+n→op.act.touch? = none):Cls Γ L n (t ++ u):=by
 obtain ⟨q,p,h1,h2,h3,h4,h5,h6⟩:=h
 have hp:=lt_of_act? h3
 refine ⟨q,p,h1.app hu,h2,by rw [act?_old hp];exact h3,by rw [g?_old hp];exact h4,(heard_old hp).2 h5,fun i hi hg hcn=>?_⟩
 obtain ⟨op,hop,hog⟩:=Option.map_eq_some_iff.1 hg
 rcases getElem?_append_cases hop with ⟨hlt,_⟩ | ⟨_,hou⟩
 ·exact h6 i hi (by rw [← g?_old (u:=u) hlt];exact hg) ((counts_old hlt).1 hcn)
 ·obtain ⟨x,hx,_⟩:=hcn
  obtain ⟨op',hop',hox⟩:=touch_of hx
  rw [hop] at hop';cases hop'
  rw [hc op hou hog] at hox;cases hox
theorem Inv.allQuit {w0:World} {c:Cf} {gs:Array Goroutine} {w:World} {t:Trace} (h:Inv P Γ L n mv z Anch w0 c gs w t) (hc:c.C=.cl∨c.C=.quit):AllQuit c:=by
 obtain ⟨st,sm,_,hm⟩:=h.wg
 cases hm with
 | opn h1 _ _=>rcases hc with e | e <;> rw [e] at h1 <;> exact h1.elim
 | reg h1 _ _=>rcases hc with e | e <;> rw [e] at h1 <;> exact h1.elim
 | last l h1 _ _ _=>rcases hc with e | e <;> rw [e] at h1 <;> exact h1.elim
 | sema h1 _ _=>rcases hc with e | e <;> rw [e] at h1 <;> exact h1.elim
 | fin _ h1=>exact h1
theorem others {w0:World} {c:Cf} {gs:Array Goroutine} {w w':World} {t:Trace} (h:Inv P Γ L n mv z Anch w0 c gs w t) {k:Nat} {x x':Goroutine} (hRy:∀k',k' < gs.size→k'≠k→Ry Γ (c.O k') w w')
 (hch:Chan Γ w') (ho:Open Γ w'∨∀i,i < c.j→k≠L+i→c.s i≠8) :
 ∃f',(f'=c.f∨f'=1)∧(k=L+n→f'=c.f)∧(mayWake P x=true→x'.status=.running→c.C=.sem→k≠L+n→f'=1)∧∀k' g,k'≠k→gs[k']? = some g→Sit P Γ L n mv z Anch { c with f:=f' } k' (woken P x x' w' g) w':=by
 have hL:=h.geo.1
 have one:∀k' g,k'≠k→gs[k']? = some g→∃f',(f'=c.f∨f'=1)∧(k'≠L+n→f'=c.f)∧(mayWake P x=true→x'.status=.running→c.C=.sem→k'=L+n→f'=1)∧Sit P Γ L n mv z Anch { c with f:=f' } k' (woken P x x' w' g) w':=fun k' g hk hg =>
  (h.sit k' g hg).keep hL (hRy k' (Array.getElem?_eq_some_iff.1 hg).1 hk) hch (ho.imp id fun h i hi e=>h i hi (by omega))
 by_cases hc:∃g,L+n≠k∧gs[L+n]? = some g
 ·obtain ⟨g,h1,h2⟩:=hc
  obtain ⟨f',a,b,d,_⟩:=one _ g h1 h2
  refine ⟨f',a,fun e=>absurd e.symm h1,fun e1 e2 e3 _=>d e1 e2 e3 rfl,fun k' g' hk hg=>?_⟩
  by_cases hkk:k'=L+n
  ·subst hkk
   rw [h2] at hg;cases hg
   assumption
  ·obtain ⟨f'',_,b',_,e⟩:=one k' g' hk hg
   exact e.like (c':={ c with f:=f' }) ⟨fun _=>⟨rfl,rfl⟩,fun i hi _=>⟨hi,rfl⟩,fun _=>rfl,rfl,rfl,rfl⟩ (.inr hkk)
 ·by_cases hkn:k=L+n
  ·refine ⟨c.f,.inl rfl,fun _=>rfl,fun _ _ _ e=>absurd hkn e,fun k' g' hk hg=>?_⟩
   obtain ⟨f'',_,b',_,e⟩:=one k' g' hk hg
   exact e.like (c':={ c with f:=c.f }) ⟨fun _=>⟨rfl,rfl⟩,fun i hi _=>⟨hi,rfl⟩,fun _=>rfl,rfl,rfl,rfl⟩ (.inr (by omega))
  ·refine ⟨1,.inr rfl,fun e=>absurd e hkn,fun _ _ _ _=>rfl,fun k' g' hk hg=>?_⟩
   have:k'≠L+n:=fun e=>hc ⟨g',by omega,e▸hg⟩
   obtain ⟨f'',_,b',_,e⟩:=one k' g' hk hg
   exact e.like (c':={ c with f:=1 }) ⟨fun _=>⟨rfl,rfl⟩,fun i hi _=>⟨hi,rfl⟩,fun _=>rfl,rfl,rfl,rfl⟩ (.inr this)
theorem Inv.step {w0:World} {c c':Cf} {gs:Array Goroutine} {w w':World} {sl:Option (Nat×Nat)} {t:Trace} (h:Inv P Γ L n mv z Anch w0 c gs w t) {k:Nat} {g g':Goroutine} {es:Array Event}
 (hk:gs[k]? = some g) (hgo:stepG P (k == 0) g w=.go g' w' es)
 (hj:c'.j=c.j) (hN:c'.C=.none↔c.C=.none) (hlike:∀k',k'≠k→Like L n c c' k') (hf:c'.f=c.f∨k=L+n)
 (hRy:∀k',k' < gs.size→k'≠k→Ry Γ (c.O k') w w') (ho:Open Γ w'∨∀i,i < c.j→k≠L+i→c.s i≠8)
 (hsit:Sit P Γ L n mv z Anch c' k g' w') (htags:ZJ n c') (hdeaf:deafBehind (c.d k) es=c'.d k) (hdm:c'.d 0=dM c'.M) (hdw:∀i,i < c'.j→c'.s i≠1→c'.d (L+i)=dW (c'.s i)) (hdc:c'.C≠.none→c'.C≠.quit→c'.d (L+n)=dC c'.C)
 (hwg:∃st sm,WgAt Γ.ty Γ.Wg w' st sm∧∀f',(f'=c'.f∨f'=1)→(k=L+n→f'=c'.f)→(mayWake P g=true→g'.status=.running→c.C=.sem→k≠L+n→f'=1)→Mode { c' with f:=f' } st sm)
 (hch:∃cl s r tm,w'.heap[Γ.Ch]? = some (.chan 0 #[] cl s r tm)∧(cl=true↔c'.C=.quit)) (hrc:ZI n c')
 (hdis:Dis Γ (own L n c') w'.heap.size) (htr:TR Γ (own L n c') (Act L n c) (sg L n c) w'.heap.size gs.size (t ++ MemOp.ofEvents k g.frame.fn g.frame.place es))
 (hnr:∀e∈es,e.loc≠.mark (.release (stA Γ.Wg)))
 (hrel:∀i,i < c.j→k=L+i→c'.s i≤6→∃r,RelBy (stA Γ.Wg) (t ++ MemOp.ofEvents k g.frame.fn g.frame.place es) k r)
 (hbook:∀i r,i < c.j→k=L+i→c.s i≤6→RelBy (stA Γ.Wg) t k r→RelBy (stA Γ.Wg) (t ++ MemOp.ofEvents k g.frame.fn g.frame.place es) k r)
 (hacq:c'.C=.cl→c.C=.cl∨∃q,Acq Γ L n (t ++ MemOp.ofEvents k g.frame.fn g.frame.place es) q)
 (hcls:c'.C=.quit→(c.C=.quit∧(k=L+n→∀e∈es,(MemAct.ofEvent e).touch? = none))∨Cls Γ L n (t ++ MemOp.ofEvents k g.frame.fn g.frame.place es))
 (hfr:∀b,b < Γ.B0→b≠Γ.Wg→b≠Γ.Ch→w'.heap[b]? = w.heap[b]?) (hsz:w.heap.size≤w'.heap.size) (htape:w'.tape=w.tape) (hos:w'.os=w.os) (hout:w'.output=w.output) (hono:¬ Act L n c k→∀b,¬ c'.O k b)
 (hwoke:∀r,c'.M=.blk r→∃a,((gs.map (woken P g g' w')).setIfInBounds k g')[0]? = some a∧(c'.C=.quit→a.status=.running)∧(c'.C≠.quit→a.status=.blocked))
 (hlt:(μ n c').1 < (μ n c).1∨((μ n c').1=(μ n c).1∧(One (L+n+1) c'.ρ c.ρ∨(c'.ρ=c.ρ∧c'.f < c.f∧k=L+n)))) :
 Nx P Γ L n mv z Anch w0 c t (runT P (crowd gs w sl) k):=by
 obtain ⟨f',hf1,hf2,hf3,hoth⟩:=others (x:=g) (x':=g') h hRy (by obtain ⟨cl,s,r,tm,h1,_⟩:=hch;exact ⟨cl,s,r,tm,h1⟩) ho
 have hklt:=(Array.getElem?_eq_some_iff.1 hk).1
 obtain ⟨f2,e1,e2,e3,e4⟩:∃f2,(f2=c'.f∨f2=1)∧(k=L+n→f2=c'.f)∧(mayWake P g=true→g'.status=.running→c.C=.sem→k≠L+n→f2=1)∧((k≠L+n→f2=f')):=by
  by_cases hkn:k=L+n
  ·exact ⟨c'.f,.inl rfl,fun _=>rfl,fun _ _ _ x=>absurd hkn x,fun x=>absurd hkn x⟩
  ·refine ⟨f',?_,fun x=>absurd x hkn,fun a b d _=>hf3 a b d hkn,fun _=>rfl⟩
   rcases hf with x | x
   ·rw [x];exact hf1
   ·exact absurd x hkn
 refine ⟨{ c' with f:=f2 },_,w',sl,_,runT_crowd_go (P:=P) (sl:=sl) hk hgo,?_,?_⟩
 ·rcases hlt with x | ⟨x1,x2 | ⟨x2,x3,x4⟩⟩
  ·exact .inl x
  ·exact .inr ⟨x1,.inl x2⟩
  ·exact .inr ⟨x1,.inr ⟨x2,by show f2 < c.f;rw [e2 x4];exact x3⟩⟩
 have hopw:∀{i r},RelBy (stA Γ.Wg) t (L+i) r→L+i≠k→RelBy (stA Γ.Wg) (t ++ MemOp.ofEvents k g.frame.fn g.frame.place es) (L+i) r:=fun hr hne=>hr.appOther g_of_ofEvents (Ne.symm hne)
 have hrelAll:∀i r,i < c.j→c.s i≤6→RelBy (stA Γ.Wg) t (L+i) r→RelBy (stA Γ.Wg) (t ++ MemOp.ofEvents k g.frame.fn g.frame.place es) (L+i) r:=fun i r hi hs hr=>by
  by_cases e:L+i=k
  ·rw [e] at hr ⊢;exact hbook i r hi e.symm hs hr
  ·exact hopw hr e
 have hjn:c.C≠.none→c.j=n:=fun hc=>by
  have:=h.tags
  unfold ZJ at this
  split at this
  all_goals first | exact this.1 | exact absurd this.2.2 hc
 have hrelN:c.C=.cl∨c.C=.quit→∀i r,i < n→RelBy (stA Γ.Wg) t (L+i) r→RelBy (stA Γ.Wg) (t ++ MemOp.ofEvents k g.frame.fn g.frame.place es) (L+i) r:=fun hc i r hi hr=>by
  have e:=hjn (by rcases hc with x | x <;> rw [x] <;> simp)
  exact hrelAll i r (by omega) (by rw [h.allQuit hc i (by omega)];omega) hr
 obtain ⟨st,sm,hwg1,hwg2⟩:=hwg
 have hactE:Act L n { c' with f:=f2 }=Act L n c:=xM hj hN
 have hsgE:sg L n { c' with f:=f2 }=sg L n c:=Jl hN
 refine ⟨h.geo,?_,htags,fun k' x hx=>?_,fun k' hk'=>?_,hdm,hdw,hdc,⟨st,sm,hwg1,hwg2 f2 e1 e2 e3⟩,hch,hrc,hdis,?_,h.nor.app (norel_of hnr),fun i hi hs=>?_,fun hc=>?_,fun hc=>?_,?_,?_,hwoke⟩
 ·rw [Array.size_setIfInBounds,Array.size_map,h.size,hj.symm]
  show L+c'.j+isN c=L+c'.j+isN { c' with f:=f2 }
  rw [JS (c:=c) (c':={ c' with f:=f2 }) hN]
 ·by_cases e:k'=k
  ·subst e
   rw [get_map_set_same _ _ _ hklt] at hx
   cases hx
   exact hsit.like ⟨fun _=>⟨rfl,rfl⟩,fun i hi _=>⟨hi,rfl⟩,fun _=>rfl,rfl,rfl,rfl⟩ (by
    by_cases hkn:k'=L+n
    ·exact .inl (e2 hkn)
    ·exact .inr hkn)
  ·rw [get_map_set _ _ _ _ (Ne.symm e)] at hx
   obtain ⟨y,hy,rfl⟩:=Option.map_eq_some_iff.1 hx
   have hl:=hlike k' e
   refine (hoth k' y e hy).like (c':={ c' with f:=f2 }) ⟨hl.M,hl.W,hl.C,hl.O,hl.d,hl.ρ⟩ ?_
   by_cases hkn:k=L+n
   ·exact .inr (by omega)
   ·exact .inl (e4 hkn)
 ·rw [Array.size_setIfInBounds,Array.size_map] at hk'
  by_cases e:k'=k
  ·subst e
   rw [Deaf_own,h.deaf k' hk'];exact hdeaf
  ·rw [Deaf_other t (Ne.symm e) _ g_of_ofEvents,h.deaf k' hk']
   exact (hlike k' e).d.symm
 ·rw [hactE,hsgE,Array.size_setIfInBounds,Array.size_map];exact htr
 ·by_cases e:k=L+i
  ·rw [← e];exact hrel i (hj▸hi) e hs
  ·have hl:=hlike (L+i) (fun x=>e x.symm)
   obtain ⟨_,hw⟩:=hl.W i (hj▸hi) rfl
   have hs':c'.s i≤6:=hs
   obtain ⟨r,hr⟩:=h.rel i (hj▸hi) (hw▸hs')
   exact ⟨r,hopw hr (fun x=>e x.symm)⟩
 ·rcases hacq hc with x | x
  ·obtain ⟨q,hq⟩:=h.acq x
   exact ⟨q,hq.app (hrelN (by rw [x];simp))⟩
  ·exact x
 ·rcases hcls hc with ⟨x,y⟩ | x
  ·refine (h.cls x).app (hrelN (by rw [x];simp)) fun op hop hg=>?_
   obtain ⟨e,he,rfl⟩:=Go.Conc.mem_ofEvents hop
   exact y hg e he
  ·exact x
 ·exact ⟨fun b h1 h2 h3=>(hfr b h1 h2 h3).trans (h.fr.low b h1 h2 h3),Nat.le_trans h.fr.size hsz,htape.trans h.fr.tape,hos.trans h.fr.os,hout.trans h.fr.output⟩
 ·intro k' hk' b hb
  rw [hactE] at hk'
  by_cases e:k'=k
  ·subst e;exact hono hk' b hb
  ·exact h.ono k' hk' b ((hlike k' e).O▸hb)
end
end Go.Fan
end
section
namespace Go.Fan
open Go Go.Conc Go.ConcN
open Go.ConcR (KK wgBlock WgAt stA smA rd wr mk DC0 g_of_ofEvents)
section
variable {P:Program} {Γ:Ge} {L n:Nat} {mv:Nat→Value} {z:Value} {Anch:(Nat→Prop)→Goroutine→World→Prop}
variable {w0:World} {c:Cf} {gs:Array Goroutine} {w w':World} {sl:Option (Nat×Nat)} {t:Trace}
structure Alike (c c':Cf):Prop where
 j:c'.j=c.j
 M:c'.M=c.M
 C:c'.C=c.C
 s:∀i,i < c.j→c'.s i=c.s i
theorem Alike.vc {c c':Cf} (h:Alike c c'):Vc c'=Vc c:=by
 unfold Vc;rw [h.j];exact sumTo_congr fun i hi=>by rw [h.s i hi]
theorem Mode.alike {c c':Cf} {st sm:Int} (h:Mode c st sm) (a:Alike c c') (hf:c'.f=c.f∨c'.f=1):Mode c' st sm:=by
 cases h with
 | opn h1 h2 h3=>rw [← a.vc,← a.M];exact .opn (by rw [a.C];exact h1) (fun i hi=>by rw [a.s i (a.j▸hi)];exact h2 i (a.j▸hi)) (fun vs e=>by rw [a.vc];exact h3 vs (a.C▸e))
 | reg h1 h2 h3=>rw [← a.vc];exact .reg (by rw [a.C];exact h1) (fun i hi=>by rw [a.s i (a.j▸hi)];exact h2 i (a.j▸hi)) (by rw [a.vc];exact h3)
 | last l h1 h2 h3 h4=>rw [← a.s l h2];exact .last l (by rw [a.C];exact h1) (a.j▸h2) (by rw [a.s l h2];exact h3) (fun i hi hne=>by rw [a.s i (a.j▸hi)];exact h4 i (a.j▸hi) hne)
 | sema h1 h2 h3=>exact .sema (by rw [a.C];exact h1) (fun e=>hf.elim (fun x=>x.trans (h2 (a.C▸e))) id) (fun i hi=>by rw [a.s i (a.j▸hi)];exact h3 i (a.j▸hi))
 | fin h1 h2=>exact .fin (by rw [a.C];exact h1) (fun i hi=>by rw [a.s i (a.j▸hi)];exact h2 i (a.j▸hi))
theorem Inv.jn (h:Inv P Γ L n mv z Anch w0 c gs w t):c.j≤n:=by
 have:=h.tags
 unfold ZJ at this
 split at this <;> omega
theorem Inv.jN (h:Inv P Γ L n mv z Anch w0 c gs w t) (hc:c.C≠.none):c.j=n:=by
 have:=h.tags
 unfold ZJ at this
 split at this
 all_goals first | exact this.1 | exact absurd this.2.2 hc | exact absurd this.2 hc
theorem Inv.act_lt (h:Inv P Γ L n mv z Anch w0 c gs w t) {k:Nat} (hk:Act L n c k):k < gs.size:=by
 have hL:=h.geo.1
 have hs:=h.size
 rcases hk with rfl | ⟨i,hi,rfl⟩ | ⟨hc,rfl⟩
 ·omega
 ·omega
 ·have:=h.jN hc
  rw [isN,if_neg hc] at hs
  omega
theorem Inv.opens (h:Inv P Γ L n mv z Anch w0 c gs w t):(Open Γ w∧c.C≠.quit)∨(c.C=.quit∧∀i,i < c.j→c.s i=1):=by
 obtain ⟨cl,s,r,tm,h1,h2⟩:=h.ch
 cases cl with
 | false=>exact .inl ⟨⟨s,r,tm,h1⟩,fun e=>by cases h2.2 e⟩
 | true =>
   have e:=h2.1 rfl
   exact .inr ⟨e,h.allQuit (.inr e)⟩
theorem Inv.ho (h:Inv P Γ L n mv z Anch w0 c gs w t) (e:w'.heap[Γ.Ch]? = w.heap[Γ.Ch]?) (k:Nat):Open Γ w'∨∀i,i < c.j→k≠L+i→c.s i≠8:=by
 rcases h.opens with ⟨⟨s,r,tm,h1⟩,_⟩ | ⟨_,h2⟩
 ·exact .inl ⟨s,r,tm,e.trans h1⟩
 ·exact .inr fun i hi _=>by rw [h2 i hi];decide
theorem Inv.wokes (h:Inv P Γ L n mv z Anch w0 c gs w t) {k:Nat} {g g':Goroutine} (hk:k≠0∨(∀r,c.M≠.blk r)) (e:w'.heap[Γ.Ch]? = w.heap[Γ.Ch]?) :
 ∀r,c.M=.blk r→∃a,((gs.map (woken P g g' w')).setIfInBounds k g')[0]? = some a∧(c.C=.quit→a.status=.running)∧(c.C≠.quit→a.status=.blocked):=by
 intro r hM
 rcases hk with hk | hk
 ·obtain ⟨a,h1,h2,h3⟩:=h.woke r hM
  rcases Classical.em (c.C=.quit) with hc | hc
  ·exact ⟨a,by rw [get_map_set _ _ _ _ hk,h1,Option.map_some,woken_run (h2 hc)],h2,h3⟩
  ·have hop:Open Γ w':=by
    rcases h.opens with ⟨⟨s,r,tm,h1⟩,_⟩ | ⟨h4,_⟩
    ·exact ⟨s,r,tm,e.trans h1⟩
    ·exact absurd h4 hc
   obtain ⟨s,q,tm,hop⟩:=hop
   have hb:=h3 hc
   have hp:∃g0,a=parked (core g0) #[rcase Γ.Ch z] (.recv true):=by
    have hL:=h.geo.1
    cases h.sit 0 a h1 with
    | main _ h5 =>
      rw [hM] at h5
      generalize c.ρ 0=ρ at h5
      generalize c.O 0=O at h5
      cases h5 with
      | run x _=>exact absurd rfl (x _)
      | blk x _ =>
        rcases x with rfl | rfl
        ·exact ⟨_,rfl⟩
        ·cases hb
    | old h1 _ _ _=>omega
    | work _ h2 _=>omega
    | close h1 _=>omega
   obtain ⟨g0,rfl⟩:=hp
   exact ⟨_,by rw [get_map_set _ _ _ _ hk,h1,Option.map_some,woken_recv_open _ _ hop],h2,h3⟩
 ·exact absurd hM (hk r)
theorem Inv.not_ro (h:Inv P Γ L n mv z Anch w0 c gs w t) {k b:Nat} (ho:c.O k b):Γ.B0≤b∧Act L n c k:=by
 by_cases ha:Act L n c k
 ·exact ⟨h.dis.high k b ⟨ha,ho⟩,ha⟩
 ·exact absurd ho (h.ono k ha b)
theorem Inv.ry_own (h:Inv P Γ L n mv z Anch w0 c gs w t) {k:Nat} {es:Array Event} (hg:Gy Γ (c.O k) w w' es) {k':Nat} (hne:k'≠k):Ry Γ (c.O k') w w':=by
 refine ⟨hg.size,fun b hb ho=>hg.stay b hb fun hok=>?_,fun ⟨st,sm,hl⟩=>⟨st,sm,hl.of_block (hg.stay _ ?_ fun hok=>?_)⟩,hg.tape,hg.os,hg.output⟩
 ·obtain ⟨h1,ha⟩:=h.not_ro hok
  rcases ho with ho | ho
  ·have:=ho.1;omega
  ·exact hne (h.dis.one _ _ _ ⟨(h.not_ro ho).2,ho⟩ ⟨ha,hok⟩)
 ·have:=h.geo.2.1;have:=h.fr.size;omega
 ·have:=(h.not_ro hok).1;have:=h.geo.2.1;omega
theorem MSit.rely {got:List Nat} {ρ:Rank} {tag:MTg} {O:Nat→Prop} {g:Goroutine} (h:MSit P Γ n mv z Anch got ρ tag O g w) (hr:Ry Γ O w w'):MSit P Γ n mv z Anch got ρ tag O g w':=by
 cases h with
 | run a e=>exact .run a (e.rely hr)
 | blk b a=>exact .blk b fun w₁ h₁=>a w₁ (hr.trans h₁)
theorem WSit.rely {v:Value} {d s:Nat} {ρ:Rank} {O:Nat→Prop} {g:Goroutine} (h:WSit P Γ v d s ρ O g w) (hr:Ry Γ O w w'):WSit P Γ v d s ρ O g w':=by
 cases h with
 | run a b e=>exact .run a b (e.rely hr)
 | prk a=>exact .prk (a.rely hr.rl)
 | quit a=>exact .quit a
theorem CSit.rely {f d:Nat} {tag:CTg} {ρ:Rank} {O:Nat→Prop} {g:Goroutine} (h:CSit P Γ f d tag ρ O g w) (hr:Ry Γ O w w'):CSit P Γ f d tag ρ O g w':=by
 cases h with
 | run a b e f=>exact .run a b e (f.rely hr)
 | blk a b e=>exact .blk a b fun w₁ h₁=>e w₁ (hr.trans h₁)
 | quit a=>exact .quit a
theorem Sit.rely {k:Nat} {g:Goroutine} (h:Sit P Γ L n mv z Anch c k g w) (hr:Ry Γ (c.O k) w w'):Sit P Γ L n mv z Anch c k g w':=by
 cases h with
 | main h1 h2=>exact .main h1 (h2.rely hr)
 | old h1 h2 h3 h4=>exact .old h1 h2 h3 h4
 | work h1 h2 h3=>exact .work h1 h2 (h3.rely hr)
 | close h1 h2=>exact .close h1 (h2.rely hr)
theorem Inv.at (h:Inv P Γ L n mv z Anch w0 c gs w t) (d:Nat):Inv P Γ L n mv z Anch w0 c gs (w.at d) t:=by
 refine ⟨h.geo,h.size,h.tags,fun k g hg=>?_,h.deaf,h.dm,h.dw,h.dc,h.wg,h.ch,h.rc,h.dis,h.tr,h.nor,h.rel,h.acq,h.cls,⟨h.fr.low,h.fr.size,h.fr.tape,h.fr.os,h.fr.output⟩,h.ono,h.woke⟩
 exact (h.sit k g hg).rely (Ry.at w d)
theorem qdn {own:Nat→Nat→Prop} {O:Nat→Prop} {sg B B' k:Nat} {e:Event} (h:EvO Γ O B B' e) (hO:∀b,O b→own k b):∀x,(MemAct.ofEvent e).touch? = some x→Tch Γ own sg B k x:=by
 intro x hx
 obtain ⟨h1,b,h2,h3⟩:=h.1 x hx
 rcases h3 with ⟨h3,h4⟩ | h3 | h3
 ·exact .read h2 h3 h4 h1
 ·exact .mine h2 (hO b h3) h1
 ·exact .new h2 h3 h1
theorem qw {α:Type} (f:Nat→α) (k:Nat) (x:α):upd f k x k=x:=upd_same f k x
theorem Inv.idle (h:Inv P Γ L n mv z Anch w0 c gs w t) {k:Nat} (hact:Act L n c k) {g g':Goroutine} {es:Array Event} {ρ':Rank} (hk:gs[k]? = some g) (hgo:stepG P (k == 0) g w=.go g' w' es)
 (hg:Gy Γ (c.O k) w w' es) (hq:∀i,i < c.j→k=L+i→c.s i≤6→es=#[]) (hnq:k=L+n→c.C≠.quit) (hnb:k≠0∨∀r,c.M≠.blk r) (hρ:Rank.Lt ρ' (c.ρ k)) (hsit:Sit P Γ L n mv z Anch { c with O:=upd c.O k (grow (c.O k) w w'),ρ:=upd c.ρ k ρ' } k g' w') :
 Nx P Γ L n mv z Anch w0 c t (runT P (crowd gs w sl) k):=by
 have hklt:=h.act_lt hact
 have hgeo:=h.geo
 have hWs:Γ.Wg < w.heap.size:=by have:=h.fr.size;omega
 have hCs:Γ.Ch < w.heap.size:=by have:=h.fr.size;omega
 have stayLow:∀b,b < Γ.B0→w'.heap[b]? = w.heap[b]? := fun b hb=>hg.stay b (by have:=h.fr.size;omega) fun ho=>by have:=(h.not_ro ho).1;omega
 have hE:∀k' b,own L n { c with O:=upd c.O k (grow (c.O k) w w'),ρ:=upd c.ρ k ρ' } k' b→own L n c k' b∨(k'=k∧w.heap.size≤b∧b < w'.heap.size):=by
  rintro k' b ⟨h1,h2⟩
  by_cases e:k'=k
  ·subst e
   simp only [qw] at h2
   rcases h2 with h2 | h2
   ·exact .inl ⟨h1,h2⟩
   ·exact .inr ⟨rfl,h2⟩
  ·simp only [upd_ne _ _ e] at h2
   exact .inl ⟨h1,h2⟩
 have hmarks:∀e∈es,e.loc≠.mark .disable∧e.loc≠.mark .enable:=fun e he=>⟨(hg.evs e he).2.1.1,(hg.evs e he).2.1.2.1⟩
 have hbook:∀i r,i < c.j→k=L+i→c.s i≤6→RelBy (stA Γ.Wg) t k r→RelBy (stA Γ.Wg) (t ++ MemOp.ofEvents k g.frame.fn g.frame.place es) k r:=fun i r hi e hs hr=>by
  rw [hq i hi e hs]
  exact hr.appOwn _ _ _ fun j e he=>by simp at he
 obtain ⟨st,sm,hw1,hw2⟩:=h.wg
 refine h.step (c':={ c with O:=upd c.O k (grow (c.O k) w w'),ρ:=upd c.ρ k ρ' }) hk hgo rfl Iff.rfl (fun k' hk'=>⟨fun _=>⟨rfl,rfl⟩,fun i hi _=>⟨hi,rfl⟩,fun _=>rfl,upd_ne _ _ hk',rfl,upd_ne _ _ hk'⟩) (.inl rfl)
  (fun k' _ hne=>h.ry_own hg hne) (h.ho (stayLow _ hgeo.2.2.1) k) hsit h.tags (deafBehind_idle hmarks _) h.dm h.dw h.dc ⟨st,sm,hw1.of_block (stayLow _ hgeo.2.1),fun f' hf' _ _=>hw2.alike ⟨rfl,rfl,rfl,fun _ _=>rfl⟩ hf'⟩
  (by obtain ⟨cl,s,r,tm,h1,h2⟩:=h.ch;exact ⟨cl,s,r,tm,(stayLow _ hgeo.2.2.1).trans h1,h2⟩) h.rc ?_ ?_ (fun e he=>(hg.evs e he).2.1.2.2 _) (fun i hi e hs=>?_) hbook (fun hc=>.inl hc) (fun hc=>?_)
  (fun b h1 _ _=>stayLow b h1) hg.size hg.tape hg.os hg.output (fun hn=>absurd hact hn) (h.wokes hnb (stayLow _ hgeo.2.2.1)) (.inr ⟨?_,.inl ⟨k,?_,?_,fun j hj=>upd_ne _ _ hj⟩⟩)
 ·refine ⟨fun k1 k2 b h1 h2=>?_,fun k1 b h1=>?_,fun k1 b h1=>?_,h.dis.wg,h.dis.ch,Nat.le_trans h.dis.base hg.size⟩
  ·rcases hE _ _ h1 with a | ⟨rfl,a,_⟩ <;> rcases hE _ _ h2 with b' | ⟨rfl,b',_⟩
   ·exact h.dis.one _ _ _ a b'
   ·have:=h.dis.low _ _ a;omega
   ·have:=h.dis.low _ _ b';omega
   ·rfl
  ·rcases hE _ _ h1 with a | ⟨rfl,a,_⟩
   ·exact h.dis.high _ _ a
   ·exact Nat.le_trans h.dis.base a
  ·rcases hE _ _ h1 with a | ⟨rfl,_,a⟩
   ·exact Nat.lt_of_lt_of_le (h.dis.low _ _ a) hg.size
   ·exact a
 ·refine h.tr.app h.dis hact hklt hg.size (fun k' b ho=>(hE k' b ho).imp id fun ⟨a,b,_⟩=>⟨a,b⟩) fun op hop=>?_
  obtain ⟨e,he,rfl⟩:=Go.Conc.mem_ofEvents hop
  exact ⟨rfl,(hg.evs e he).2.2,qdn (hg.evs e he) fun b hb=>⟨hact,hb⟩⟩
 ·obtain ⟨r,hr⟩:=h.rel i hi hs
  exact ⟨r,hbook i r hi e hs (e▸hr)⟩
 ·exact .inl ⟨hc,fun e=>absurd hc (hnq e)⟩
 ·show wM n c.M+Ssum { c with O:=_,ρ:=_ }+wC n (Vc { c with O:=_,ρ:=_ }) c.C=wM n c.M+Ssum c+wC n (Vc c) c.C
  rfl
 ·have:=h.size
  have:=h.jn
  have e:isN c≤1:=by unfold isN;split <;> omega
  omega
 ·show Rank.Lt (upd c.ρ k ρ' k) (c.ρ k)
  rw [qw];exact hρ
end
end Go.Fan
end
section
namespace Go.Fan
open Go Go.Conc Go.ConcN
open Go.ConcR (KK wgBlock WgAt stA smA rd wr mk DC0 g_of_ofEvents)
section
variable {P:Program} {Γ:Ge} {L n:Nat} {mv:Nat→Value} {z:Value} {Anch:(Nat→Prop)→Goroutine→World→Prop}
variable {w0:World} {c c':Cf} {gs:Array Goroutine} {w w':World} {sl:Option (Nat×Nat)} {t:Trace}
theorem Inv.k_lt (h:Inv P Γ L n mv z Anch w0 c gs w t) {k:Nat} {g:Goroutine} (hk:gs[k]? = some g):k < L+n+1:=by
 have:=(Array.getElem?_eq_some_iff.1 hk).1
 have:=h.size
 have:=h.jn
 have e:isN c≤1:=by unfold isN;split <;> omega
 by_cases hc:c.C=.none
 ·rw [isN,if_pos hc] at *;omega
 ·have:=h.jN hc;omega
theorem Inv.mute (h:Inv P Γ L n mv z Anch w0 c gs w t) {k q:Nat} {g g':Goroutine} {es:Array Event} (hk:gs[k]? = some g) (hgo:stepG P (k == 0) g w=.go g' w es)
 (hm:∀e∈es,Event.mute e=true) (hq:QuitsD P q (deafBehind (c.d k) es) g') (hρ:c.ρ k=.of (q+1)) (kind:(0 < k∧k < L)∨(∃i,i < c.j∧k=L+i∧c.s i=1)∨(k=L+n∧c.C=.quit)) :
 Nx P Γ L n mv z Anch w0 c t (runT P (crowd gs w sl) k):=by
 have hL:=h.geo.1
 have hklt:=(Array.getElem?_eq_some_iff.1 hk).1
 have hk0:k≠0:=by rcases kind with x | ⟨i,_,x,_⟩ | ⟨x,_⟩ <;> omega
 have hbook:∀i r,i < c.j→k=L+i→c.s i≤6→RelBy (stA Γ.Wg) t k r→RelBy (stA Γ.Wg) (t ++ MemOp.ofEvents k g.frame.fn g.frame.place es) k r:=fun i r _ _ _ hr =>
  hr.appOwn _ _ _ fun j e he=>.inl (touch_mute (hm e (Array.mem_of_getElem? he)))
 obtain ⟨st,sm,hw1,hw2⟩:=h.wg
 refine h.step (c':={ c with d:=upd c.d k (deafBehind (c.d k) es),ρ:=upd c.ρ k (.of q) }) hk hgo rfl Iff.rfl (fun k' hk'=>⟨fun _=>⟨rfl,rfl⟩,fun i hi _=>⟨hi,rfl⟩,fun _=>rfl,rfl,upd_ne _ _ hk',upd_ne _ _ hk'⟩) (.inl rfl)
  (fun k' _ _=>.refl w) (h.ho rfl k) ?_ h.tags (qw _ _ _).symm ((upd_ne _ _ (Ne.symm hk0)).trans h.dm) (fun i hi hs=>?_) (fun h1 h2=>?_) ⟨st,sm,hw1,fun f' hf' _ _=>hw2.alike ⟨rfl,rfl,rfl,fun _ _=>rfl⟩ hf'⟩
  h.ch h.rc h.dis ?_ (fun e he=>?_) (fun i hi e hs=>?_) hbook (fun hc=>.inl hc) (fun hc=>.inl ⟨hc,fun _ e he=>touch_mute (hm e he)⟩)
  (fun _ _ _ _=>rfl) (Nat.le_refl _) rfl rfl rfl (fun hn=>h.ono k hn) (h.wokes (.inl hk0) rfl) (.inr ⟨rfl,.inl ⟨k,h.k_lt hk,?_,fun j hj=>upd_ne _ _ hj⟩⟩)
 ·rcases kind with ⟨x,y⟩ | ⟨i,x,y,hs⟩ | ⟨x,y⟩
  ·exact .old x y (qw _ _ _) (by show QuitsD P q (upd c.d k _ k) g';rw [qw];exact hq)
  ·refine .work (i:=i) x y ?_
   show WSit P Γ (mv i) (upd c.d k _ k) (c.s i) (upd c.ρ k _ k) _ _ _
   rw [qw,qw,hs]
   exact .quit hq
  ·refine .close x ?_
   show CSit P Γ c.f (upd c.d k _ k) c.C (upd c.ρ k _ k) _ _ _
   rw [qw,qw,y]
   exact .quit hq
 ·show upd c.d k _ (L+i)=dW (c.s i)
  have hs':c.s i≠1:=hs
  rw [upd_ne _ _ (fun e=>?_)]
  ·exact h.dw i hi hs'
  ·rcases kind with ⟨x,y⟩ | ⟨i',x,y,hs2⟩ | ⟨x,y⟩
   ·omega
   ·obtain rfl:i=i':=by omega
    exact hs' hs2
   ·have:=h.jn
    have hi':i < c.j:=hi
    omega
 ·show upd c.d k _ (L+n)=dC c.C
  have h2':c.C≠.quit:=h2
  rw [upd_ne _ _ (fun e=>?_)]
  ·exact h.dc h1 h2
  ·rcases kind with ⟨x,y⟩ | ⟨i',x,y,hs2⟩ | ⟨x,y⟩
   ·omega
   ·have:=h.jn;omega
   ·exact h2' y
 ·refine h.tr.mute hklt (Nat.le_refl _) (fun k' b hb=>.inl hb) fun op hop=>?_
  obtain ⟨e,he,rfl⟩:=Go.Conc.mem_ofEvents hop
  exact ⟨rfl,low_mute (hm e he) _,touch_mute (hm e he)⟩
 ·have:=hm e he
  intro hl
  unfold Event.mute at this
  split at this <;> simp_all
 ·obtain ⟨r,hr⟩:=h.rel i hi hs
  exact ⟨r,hbook i r hi e hs (e▸hr)⟩
 ·show Rank.Lt (upd c.ρ k (.of q) k) (c.ρ k)
  rw [qw,hρ]
  exact Rank.of_lt q
def EvT (Γ:Ge) (s k:Nat) (e:Event):Prop :=
 ((MemAct.ofEvent e).touch? = none∨∃x,(MemAct.ofEvent e).touch? = some x∧blk x.loc=some Γ.Wg∧(x.kind=.atomic∨(x.kind=.said∧k=s)))∧(∀B,Γ.Wg < B→(MemAct.ofEvent e).low B)∧e.loc≠.mark (.release (stA Γ.Wg))
theorem yD (s k:Nat) (a:Addr) (ha:a.block=Γ.Wg) (wr:Bool):EvT Γ s k ⟨.cell a,wr,true⟩:=by
 refine ⟨.inr ⟨⟨.cell a,wr,.atomic⟩,by cases wr <;> rfl,by simp [blk,ha],.inl rfl⟩,fun B hB=>?_,by simp⟩
 cases wr <;> simpa [MemAct.ofEvent,MemAct.low,Loc.low,ha] using hB
theorem qbV (s k:Nat) {m:Mark} (h:(MemAct.mark m).touch? = none) (hl:∀B,Γ.Wg < B→(MemAct.mark m).low B) (hr:m≠.release (stA Γ.Wg)):EvT Γ s k (mk m) :=
 ⟨.inl h,hl,fun e=>hr (Loc.mark.inj e)⟩
theorem qbW (k:Nat) {m:Mark} {wr:Bool} (h:(MemAct.mark m).touch? = some ⟨.cell (smA Γ.Wg),wr,.said⟩) (hl:∀B,Γ.Wg < B→(MemAct.mark m).low B) (hr:m≠.release (stA Γ.Wg)):EvT Γ k k (mk m) :=
 ⟨.inr ⟨_,h,rfl,.inr ⟨rfl,rfl⟩⟩,hl,fun e=>hr (Loc.mark.inj e)⟩
structure But (Γ:Ge) (w w':World):Prop where
 blk:∀b,b≠Γ.Wg→w'.heap[b]? = w.heap[b]?
 size:w'.heap.size=w.heap.size
 tape:w'.tape=w.tape
 os:w'.os=w.os
 output:w'.output=w.output
theorem But.refl (w:World):But Γ w w:=⟨fun _ _=>rfl,rfl,rfl,rfl,rfl⟩
theorem But.set (w:World) (a:Addr) (ha:a.block=Γ.Wg) (v:Value):But Γ w (w.setCell a v):=by
 have:=aside_setCell w a v
 exact ⟨fun b hb=>this.block b (by rw [ha];exact hb),this.size,this.tape,this.os,this.output⟩
theorem But.ry {O:Nat→Prop} (h:But Γ w w') (hO:¬ O Γ.Wg) (hl:WgLive Γ.ty Γ.Wg w'):Ry Γ O w w' :=
 ⟨Nat.le_of_eq h.size.symm,fun b _ ho=>h.blk b fun e=>(ho.elim (fun x=>x.2.1 e) fun x=>hO (e▸x)),fun _=>hl,h.tape,h.os,h.output⟩
theorem Inv.nO (h:Inv P Γ L n mv z Anch w0 c gs w t) (k:Nat):¬ c.O k Γ.Wg:=fun ho=>by
 have:=(h.not_ro ho).1
 have:=h.geo.2.1
 omega
theorem Inv.turn (h:Inv P Γ L n mv z Anch w0 c gs w t) {k:Nat} {g g':Goroutine} {es:Array Event} (hact:Act L n c k) (hk:gs[k]? = some g) (hgo:stepG P (k == 0) g w=.go g' w' es)
 (hb:But Γ w w') (hev:∀e∈es,EvT Γ (sg L n c) k e)
 (hj:c'.j=c.j) (hN:c'.C=.none↔c.C=.none) (hQ:c'.C=.quit↔c.C=.quit) (hQ2:k=L+n→c.C≠.quit) (hlike:∀k',k'≠k→Like L n c c' k') (hnb:k≠0∨∀r,c'.M≠.blk r) (hO:c'.O=c.O) (hf:c'.f=c.f∨k=L+n)
 (hsit:Sit P Γ L n mv z Anch c' k g' w') (htags:ZJ n c') (hdeaf:deafBehind (c.d k) es=c'.d k) (hdm:c'.d 0=dM c'.M) (hdw:∀i,i < c'.j→c'.s i≠1→c'.d (L+i)=dW (c'.s i)) (hdc:c'.C≠.none→c'.C≠.quit→c'.d (L+n)=dC c'.C)
 (hwg:∃st sm,WgAt Γ.ty Γ.Wg w' st sm∧∀f',(f'=c'.f∨f'=1)→(k=L+n→f'=c'.f)→(mayWake P g=true→g'.status=.running→c.C=.sem→k≠L+n→f'=1)→Mode { c' with f:=f' } st sm)
 (hrc:ZI n c')
 (hrel:∀i,i < c.j→k=L+i→c'.s i≤6→(c.s i≤6→∃r,RelBy (stA Γ.Wg) t k r)→∃r,RelBy (stA Γ.Wg) (t ++ MemOp.ofEvents k g.frame.fn g.frame.place es) k r)
 (hbook:∀i r,i < c.j→k=L+i→c.s i≤6→RelBy (stA Γ.Wg) t k r→RelBy (stA Γ.Wg) (t ++ MemOp.ofEvents k g.frame.fn g.frame.place es) k r)
 (hacq:c'.C=.cl→c.C=.cl∨∃q,Acq Γ L n (t ++ MemOp.ofEvents k g.frame.fn g.frame.place es) q)
 (hlt:(μ n c').1 < (μ n c).1∨((μ n c').1=(μ n c).1∧(One (L+n+1) c'.ρ c.ρ∨(c'.ρ=c.ρ∧c'.f < c.f∧k=L+n)))) :
 Nx P Γ L n mv z Anch w0 c t (runT P (crowd gs w sl) k):=by
 have hgeo:=h.geo
 obtain ⟨st,sm,hw1,hw2⟩:=hwg
 have hlive:WgLive Γ.ty Γ.Wg w':=⟨st,sm,hw1⟩
 have hC:w'.heap[Γ.Ch]? = w.heap[Γ.Ch]? := hb.blk _ hgeo.2.2.2.1
 have hown:own L n c'=own L n c:=by
  unfold own;rw [xM hj hN,hO]
 refine h.step (c':=c') hk hgo hj hN hlike hf (fun k' _ _=>hb.ry (h.nO k') hlive) (h.ho hC k) hsit htags hdeaf hdm hdw hdc ⟨st,sm,hw1,hw2⟩ ?_ hrc (by rw [hown,hb.size];exact h.dis) ?_ (fun e he=>(hev e he).2.2)
  (fun i hi e hs=>hrel i hi e hs fun hs'=>(by obtain ⟨r,hr⟩:=h.rel i hi hs';exact ⟨r,e▸hr⟩)) hbook hacq (fun hc=>.inl ⟨hQ.1 hc,fun e=>absurd (hQ.1 hc) (hQ2 e)⟩) (fun b _ h2 _=>hb.blk b h2) (Nat.le_of_eq hb.size.symm) hb.tape hb.os hb.output (fun hn=>absurd hact hn) ?_ hlt
 ·obtain ⟨cl,s,r,tm,h1,h2⟩:=h.ch
  exact ⟨cl,s,r,tm,hC.trans h1,h2.trans hQ.symm⟩
 ·rw [hown,hb.size]
  have hWB:Γ.Wg < w.heap.size:=by have:=h.fr.size;omega
  refine h.tr.app h.dis hact (h.act_lt hact) (Nat.le_refl _) (fun k' b hb=>.inl hb) fun op hop=>?_
  obtain ⟨e,he,rfl⟩:=Go.Conc.mem_ofEvents hop
  refine ⟨rfl,(hev e he).2.1 _ hWB,fun x hx=>?_⟩
  rcases (hev e he).1 with h1 | ⟨y,h1,h2,h3⟩
  ·simp only at hx;rw [h1] at hx;cases hx
  ·simp only at hx;rw [h1] at hx;cases hx
   rcases h3 with h3 | ⟨h3,h4⟩
   ·exact .atom h2 h3
   ·exact .said h2 h3 h4
 ·intro r hM
  rcases hnb with hnb | hnb
  ·rw [(hlike 0 (Ne.symm hnb)).M rfl |>.1] at hM
   obtain ⟨a,h1,h2,h3⟩:=h.wokes (g:=g) (g':=g') (.inl hnb) hC r hM
   exact ⟨a,h1,fun e=>h2 (hQ.1 e),fun e=>h3 fun x=>e (hQ.2 x)⟩
  ·exact absurd hM (hnb r)
end
end Go.Fan
end
section
namespace Go.Fan
open Go Go.Conc Go.ConcN
open Go.ConcR (KK wgBlock WgAt stA smA rd wr mk DC0 g_of_ofEvents)
abbrev Cf.m (c:Cf) (M:MTg) (got:List Nat) (d:Nat) (ρ:Rank):Cf:={ c with M:=M,got:=got,d:=upd c.d 0 d,ρ:=upd c.ρ 0 ρ }
abbrev Cf.w (c:Cf) (k i s d:Nat) (ρ:Rank):Cf:={ c with s:=upd c.s i s,d:=upd c.d k d,ρ:=upd c.ρ k ρ }
abbrev Cf.c (c:Cf) (k:Nat) (C:CTg) (f d:Nat) (ρ:Rank):Cf:={ c with C:=C,f:=f,d:=upd c.d k d,ρ:=upd c.ρ k ρ }
section
variable {P:Program} {Γ:Ge} {L n:Nat} {mv:Nat→Value} {z:Value} {Anch:(Nat→Prop)→Goroutine→World→Prop}
variable {w0:World} {c:Cf} {gs:Array Goroutine} {w w':World} {sl:Option (Nat×Nat)} {t:Trace}
theorem Inv.sit0 (h:Inv P Γ L n mv z Anch w0 c gs w t) {a:Goroutine} (h0:gs[0]? = some a):MSit P Γ n mv z Anch c.got (c.ρ 0) c.M (c.O 0) a w:=by
 have hL:=h.geo.1
 cases h.sit 0 a h0 with
 | main _ h2=>exact h2
 | old h1 _ _ _=>omega
 | work _ h2 _=>omega
 | close h1 _=>omega
theorem Inv.sitW (h:Inv P Γ L n mv z Anch w0 c gs w t) {i:Nat} (hi:i < c.j) {a:Goroutine} (h0:gs[L+i]? = some a):WSit P Γ (mv i) (c.d (L+i)) (c.s i) (c.ρ (L+i)) (c.O (L+i)) a w:=by
 have hL:=h.geo.1
 have:=h.jn
 cases h.sit _ a h0 with
 | main h1 _=>omega
 | old _ h1 _ _=>omega
 | @work i' _ h2 h3=>obtain rfl:i=i':=by omega
                     exact h3
 | close h1 _=>omega
theorem Inv.sitC (h:Inv P Γ L n mv z Anch w0 c gs w t) {a:Goroutine} (h0:gs[L+n]? = some a):CSit P Γ c.f (c.d (L+n)) c.C (c.ρ (L+n)) (c.O (L+n)) a w:=by
 have hL:=h.geo.1
 have:=h.jn
 cases h.sit _ a h0 with
 | main h1 _=>omega
 | old _ h1 _ _=>omega
 | work h1 h2 _=>omega
 | close _ h2=>exact h2
theorem Rank.cases_walk {main qt:Bool} {Stop:(Nat→Prop)→Goroutine→World→Prop} {ρ:Rank} {O:Nat→Prop} {g:Goroutine} (hS:∀O g w,Stop O g w→g.status=.running) (h:Walk P main Γ qt Stop ρ O g w) :
 (∀w₁,Ry Γ O w w₁→Stop O g w₁)∨∃g' w' es ρ',stepG P main g w=.go g' w' es∧Gy Γ O w w' es∧(qt=true→es=#[])∧Rank.Lt ρ' ρ∧Walk P main Γ qt Stop ρ' (grow O w w') g' w':=by
 cases ρ with
 | zero=>exact .inl h
 | node f =>
   rcases h with h | ⟨_,h⟩
   ·exact .inl h
   ·have:=h w (.refl w)
    cases e:stepG P main g w with
    | go g' w' es=>rw [e,goes_go] at this;exact .inr ⟨g',w',es,f w,rfl,this.1.1,this.1.2,.mk f w,this.2⟩
    | _=>rw [e] at this;exact this.elim
theorem Inv.mainIdle (h:Inv P Γ L n mv z Anch w0 c gs w t) {a:Goroutine} (h0:gs[0]? = some a) (h1:∀r,c.M≠.blk r) (hw:Walk P true Γ false (StM P Γ n mv z Anch c.got c.M) (c.ρ 0) (c.O 0) a w) :
 (∀w₁,Ry Γ (c.O 0) w w₁→StM P Γ n mv z Anch c.got c.M (c.O 0) a w₁)∨Nx P Γ L n mv z Anch w0 c t (runT P (crowd gs w sl) 0):=by
 have hL:=h.geo.1
 rcases Rank.cases_walk (fun _ _ _=>StM.running) hw with hs | ⟨g',w',es,ρ',e1,e2,_,e4,e5⟩
 ·exact .inl hs
 ·refine .inr (h.idle (.inl rfl) h0 e1 e2 (fun i _ e=>by omega) (fun e=>by omega) (.inr h1) e4 (.main rfl ?_))
  show MSit P Γ n mv z Anch c.got (upd c.ρ 0 ρ' 0) c.M (upd c.O 0 _ 0) g' w'
  rw [qw,qw]
  exact .run h1 e5
theorem Inv.workIdle (h:Inv P Γ L n mv z Anch w0 c gs w t) {i:Nat} (hi:i < c.j) {a:Goroutine} (h0:gs[L+i]? = some a) (h1:c.s i≠8) (h2:c.s i≠1) (hw:Walk P false Γ (decide (c.s i≤6)) (StW P Γ (mv i) (c.s i)) (c.ρ (L+i)) (c.O (L+i)) a w) :
 (∀w₁,Ry Γ (c.O (L+i)) w w₁→StW P Γ (mv i) (c.s i) (c.O (L+i)) a w₁)∨Nx P Γ L n mv z Anch w0 c t (runT P (crowd gs w sl) (L+i)):=by
 have hL:=h.geo.1
 have hjn:=h.jn
 have hk:(L+i == 0)=false:=by simp;omega
 rcases Rank.cases_walk (fun _ _ _=>StW.running) hw with hs | ⟨g',w',es,ρ',e1,e2,e3,e4,e5⟩
 ·exact .inl hs
 ·refine .inr (h.idle (.inr (.inl ⟨i,hi,rfl⟩)) h0 (by rw [hk];exact e1) e2 (fun i' _ e hs=>e3 (decide_eq_true ((show i'=i by omega)▸hs))) (fun e=>by omega) (.inl (by omega)) e4 (.work (i:=i) hi rfl ?_))
  show WSit P Γ (mv i) (c.d (L+i)) (c.s i) (upd c.ρ (L+i) ρ' (L+i)) (upd c.O (L+i) _ (L+i)) g' w'
  rw [qw,qw]
  exact .run h1 h2 e5
theorem Inv.closeIdle (h:Inv P Γ L n mv z Anch w0 c gs w t) {a:Goroutine} (h0:gs[L+n]? = some a) (h1:c.C≠.none) (h2:c.C≠.quit) (h3:c.C=.sem→c.f=1) (hw:Walk P false Γ false (StC P Γ c.C) (c.ρ (L+n)) (c.O (L+n)) a w) :
 (∀w₁,Ry Γ (c.O (L+n)) w w₁→StC P Γ c.C (c.O (L+n)) a w₁)∨Nx P Γ L n mv z Anch w0 c t (runT P (crowd gs w sl) (L+n)):=by
 have hL:=h.geo.1
 have hjn:=h.jn
 have hk:(L+n == 0)=false:=by simp;omega
 rcases Rank.cases_walk (fun _ _ _=>StC.running) hw with hs | ⟨g',w',es,ρ',e1,e2,e3,e4,e5⟩
 ·exact .inl hs
 ·refine .inr (h.idle (.inr (.inr ⟨h1,rfl⟩)) h0 (by rw [hk];exact e1) e2 (fun i' _ e hs=>by omega) (fun _=>h2) (.inl (by omega)) e4 (.close rfl ?_))
  show CSit P Γ c.f (c.d (L+n)) c.C (upd c.ρ (L+n) ρ' (L+n)) (upd c.O (L+n) _ (L+n)) g' w'
  rw [qw,qw]
  exact .run h1 h2 h3 e5
theorem Mode.reM {st sm:Int} {M':MTg} (h:Mode c st sm) (e:pend M'=pend c.M):Mode { c with M:=M' } st sm:=by
 cases h with
 | opn h1 h2 h3=>rw [← e];exact .opn (c:={ c with M:=M' }) h1 h2 h3
 | reg h1 h2 h3=>exact .reg (c:={ c with M:=M' }) h1 h2 h3
 | last l h1 h2 h3 h4=>exact .last (c:={ c with M:=M' }) l h1 h2 h3 h4
 | sema h1 h2 h3=>exact .sema (c:={ c with M:=M' }) h1 h2 h3
 | fin h1 h2=>exact .fin (c:={ c with M:=M' }) h1 h2
theorem Inv.mturn (h:Inv P Γ L n mv z Anch w0 c gs w t) {a g':Goroutine} {es:Array Event} {M':MTg} {ρ':Rank} (h0:gs[0]? = some a) (hgo:stepG P true a w=.go g' w' es) (hb:But Γ w w') (hev:∀e∈es,EvT Γ (sg L n c) 0 e)
 (hsit:MSit P Γ n mv z Anch c.got ρ' M' (c.O 0) g' w') (hM':∀r,M'≠.blk r) (htags:ZJ n (c.m M' c.got (dM M') ρ')) (hd:deafBehind (c.d 0) es=dM M') (hwg:∃st sm,WgAt Γ.ty Γ.Wg w' st sm∧Mode { c with M:=M' } st sm) (hrc:ZI n (c.m M' c.got (dM M') ρ')) (hlt:wM n M' < wM n c.M) :
 Nx P Γ L n mv z Anch w0 c t (runT P (crowd gs w sl) 0):=by
 have hL:=h.geo.1
 obtain ⟨st,sm,h1,h2⟩:=hwg
 refine h.turn (c':=c.m M' c.got (dM M') ρ') (.inl rfl) h0 hgo hb hev rfl Iff.rfl Iff.rfl (fun e=>by omega) (fun k' hk'=>⟨fun e=>absurd e hk',fun i hi _=>⟨hi,rfl⟩,fun _=>rfl,rfl,upd_ne _ _ hk',upd_ne _ _ hk'⟩) (.inr hM') rfl (.inl rfl)
  (.main rfl ?_) htags (hd.trans (show dM M'=upd c.d 0 (dM M') 0 from (qw _ _ _).symm)) (show upd c.d 0 (dM M') 0=dM M' from qw _ _ _) (fun i hi hs=>(upd_ne _ _ (by omega)).trans (h.dw i hi hs)) (fun a b=>(upd_ne _ _ (by omega)).trans (h.dc a b)) ⟨st,sm,h1,fun f' hf' _ _=>h2.alike ⟨rfl,rfl,rfl,fun _ _=>rfl⟩ hf'⟩ hrc
  (fun i _ e=>by omega) (fun i r _ e=>by omega) (fun hc=>.inl hc) (.inl ?_)
 ·show MSit P Γ n mv z Anch c.got (upd c.ρ 0 ρ' 0) M' (c.O 0) g' w'
  rw [qw];exact hsit
 ·show wM n M'+Ssum c+wC n (Vc c) c.C < wM n c.M+Ssum c+wC n (Vc c) c.C
  omega
theorem wC_mono (n:Nat) {V V':Nat} (h:V'≤V) (C:CTg):wC n V' C≤wC n V C:=by
 cases C <;> simp only [wC] <;> omega
theorem Vc_w {k i s d:Nat} {ρ:Rank} (hi:i < c.j):Vc (c.w k i s d ρ)+cnt (c.s i)=Vc c+cnt s:=sumTo_upd c.s s cnt hi
theorem qdD {k i s d:Nat} {ρ:Rank} (hi:i < c.j):Ssum (c.w k i s d ρ)+c.s i=Ssum c+s:=sumTo_upd c.s s id hi
theorem rcvd_low {n:Nat} {k i s d:Nat} {ρ:Rank} (hi:i < c.j) (hjn:c.j≤n) (h:ZI n c) (h1:c.s i≤7) (h2:s≤7):ZI n (c.w k i s d ρ):=by
 have e1:∀i',(upd c.s i s i'≤7↔c.s i'≤7):=fun i'=>by
  by_cases e:i'=i
  ·subst e;rw [qw];omega
  ·rw [upd_ne _ _ e]
 have e2:∀i',due (upd c.s i s i')=due (c.s i'):=fun i'=>by
  have:=e1 i'
  unfold due
  split <;> split <;> omega
 have e3:sumTo n (fun i'=>due (upd c.s i s i'))=sumTo n (fun i'=>due (c.s i')):=sumTo_congr fun i' _=>e2 i'
 unfold ZI at h ⊢
 cases e:c.M <;> simp only [e,e1,e3] at h ⊢
 all_goals first | exact h | (have:=h.2 i hi;omega) | skip
 refine ⟨h.1,h.2.1,fun i' hi'=>?_⟩
 by_cases e:i'=i
 ·subst e;rw [qw];omega
 ·rw [upd_ne _ _ e];exact h.2.2 i' hi'
theorem Inv.wturn (h:Inv P Γ L n mv z Anch w0 c gs w t) {i:Nat} (hi:i < c.j) {a g':Goroutine} {es:Array Event} {s' d':Nat} {ρ':Rank} (h0:gs[L+i]? = some a) (hgo:stepG P false a w=.go g' w' es) (hb:But Γ w w') (hev:∀e∈es,EvT Γ (sg L n c) (L+i) e)
 (hsit:WSit P Γ (mv i) d' s' ρ' (c.O (L+i)) g' w') (hd:deafBehind (c.d (L+i)) es=d') (hdw:s'≠1→d'=dW s')
 (hwg:∃st sm,WgAt Γ.ty Γ.Wg w' st sm∧∀f',(f'=c.f∨f'=1)→(mayWake P a=true→g'.status=.running→c.C=.sem→f'=1)→Mode { c.w (L+i) i s' d' ρ' with f:=f' } st sm)
 (h7:c.s i≤7) (h7':s' < c.s i)
 (hrel:s'≤6→(c.s i≤6→∃r,RelBy (stA Γ.Wg) t (L+i) r)→∃r,RelBy (stA Γ.Wg) (t ++ MemOp.ofEvents (L+i) a.frame.fn a.frame.place es) (L+i) r)
 (hbook:∀r,c.s i≤6→RelBy (stA Γ.Wg) t (L+i) r→RelBy (stA Γ.Wg) (t ++ MemOp.ofEvents (L+i) a.frame.fn a.frame.place es) (L+i) r) :
 Nx P Γ L n mv z Anch w0 c t (runT P (crowd gs w sl) (L+i)):=by
 have hL:=h.geo.1
 have hjn:=h.jn
 have hk:(L+i == 0)=false:=by simp;omega
 obtain ⟨st,sm,h1,h2⟩:=hwg
 have ev:=Vc_w (k:=L+i) (s:=s') (d:=d') (ρ:=ρ') hi
 have es':=qdD (k:=L+i) (s:=s') (d:=d') (ρ:=ρ') hi
 have hc:cnt s'≤cnt (c.s i):=by unfold cnt;split <;> split <;> omega
 refine h.turn (c':=c.w (L+i) i s' d' ρ') (.inr (.inl ⟨i,hi,rfl⟩)) h0 (by rw [hk];exact hgo) hb hev rfl Iff.rfl Iff.rfl (fun e=>by omega)
  (fun k' hk'=>⟨fun _=>⟨rfl,rfl⟩,fun i' hi' e=>⟨hi',upd_ne _ _ (by omega)⟩,fun _=>rfl,rfl,upd_ne _ _ hk',upd_ne _ _ hk'⟩) (.inl (by omega)) rfl (.inl rfl) (.work hi rfl ?_) h.tags (hd.trans (qw _ _ _).symm) ((upd_ne _ _ (by omega)).trans h.dm)
  (fun i' hi' hs=>?_) (fun a b=>(upd_ne _ _ (by omega)).trans (h.dc a b)) ⟨st,sm,h1,fun f' hf' _ hw=>h2 f' hf' fun x y u=>hw x y u (by omega)⟩ (rcvd_low hi hjn h.rc h7 (by omega))
  (fun i' _ e hs hr=>?_) (fun i' r _ e hs hr=>?_) (fun hc=>.inl hc) (.inl ?_)
 ·show WSit P Γ (mv i) (upd c.d (L+i) d' (L+i)) (upd c.s i s' i) (upd c.ρ (L+i) ρ' (L+i)) _ _ _
  rw [qw,qw,qw];exact hsit
 ·by_cases e:i'=i
  ·subst e
   have hs2:upd c.s i' s' i'≠1:=hs
   rw [qw] at hs2
   show upd c.d (L+i') d' (L+i')=dW (upd c.s i' s' i')
   rw [qw,qw];exact hdw hs2
  ·have hs2:upd c.s i s' i'≠1:=hs
   rw [upd_ne _ _ e] at hs2
   show upd c.d (L+i) d' (L+i')=dW (upd c.s i s' i')
   rw [upd_ne _ _ (by omega),upd_ne _ _ e];exact h.dw i' hi' hs2
 ·obtain rfl:i'=i:=by omega
  have hs2:upd c.s i' s' i'≤6:=hs
  rw [qw] at hs2
  exact hrel hs2 hr
 ·obtain rfl:i'=i:=by omega
  exact hbook r hs hr
 ·show wM n c.M+Ssum (c.w (L+i) i s' d' ρ')+wC n (Vc (c.w (L+i) i s' d' ρ')) c.C < wM n c.M+Ssum c+wC n (Vc c) c.C
  have:=wC_mono n (show Vc (c.w (L+i) i s' d' ρ')≤Vc c by omega) c.C
  omega
theorem Inv.cturn (h:Inv P Γ L n mv z Anch w0 c gs w t) {a g':Goroutine} {es:Array Event} {C':CTg} {f':Nat} {ρ':Rank} (hN:c.C≠.none) (hQ:c.C≠.quit) (hN':C'≠.none) (hQ':C'≠.quit) (h0:gs[L+n]? = some a) (hgo:stepG P false a w=.go g' w' es) (hb:But Γ w w') (hev:∀e∈es,EvT Γ (L+n) (L+n) e)
 (hsit:CSit P Γ f' (dC C') C' ρ' (c.O (L+n)) g' w') (hd:deafBehind (c.d (L+n)) es=dC C')
 (hwg:∃st sm,WgAt Γ.ty Γ.Wg w' st sm∧Mode (c.c (L+n) C' f' (dC C') ρ') st sm)
 (hacq:C'=.cl→∃q,Acq Γ L n (t ++ MemOp.ofEvents (L+n) a.frame.fn a.frame.place es) q)
 (hlt:wC n (Vc c) C' < wC n (Vc c) c.C∨(wC n (Vc c) C'=wC n (Vc c) c.C∧ρ'=c.ρ (L+n)∧f' < c.f)) :
 Nx P Γ L n mv z Anch w0 c t (runT P (crowd gs w sl) (L+n)):=by
 have hL:=h.geo.1
 have hjn:=h.jN hN
 have hk:(L+n == 0)=false:=by simp;omega
 have hsg:sg L n c=L+n:=by rw [sg,if_neg hN]
 obtain ⟨st,sm,h1,h2⟩:=hwg
 have hrc:ZI n (c.c (L+n) C' f' (dC C') ρ'):=by
  have:=h.rc
  unfold ZI at this ⊢
  cases e:c.M <;> simp only [e] at this ⊢
  all_goals exact this
 have htags:ZJ n (c.c (L+n) C' f' (dC C') ρ'):=by
  have:=h.tags
  unfold ZJ at this ⊢
  cases e:c.M <;> simp only [e] at this ⊢
  all_goals first | exact absurd this.2.2 hN | exact absurd this.2 hN | exact ⟨this.1,hN'⟩
 refine h.turn (c':=c.c (L+n) C' f' (dC C') ρ') (.inr (.inr ⟨hN,rfl⟩)) h0 (by rw [hk];exact hgo) hb (by rw [hsg];exact hev) rfl ⟨fun e=>absurd e hN',fun e=>absurd e hN⟩ ⟨fun e=>absurd e hQ',fun e=>absurd e hQ⟩ (fun _=>hQ)
  (fun k' hk'=>⟨fun _=>⟨rfl,rfl⟩,fun i' hi' e=>⟨hi',rfl⟩,fun e=>absurd e hk',rfl,upd_ne _ _ hk',upd_ne _ _ hk'⟩) (.inl (by omega)) rfl (.inr rfl) (.close rfl ?_) htags (hd.trans (qw _ _ _).symm) ((upd_ne _ _ (by omega)).trans h.dm)
  (fun i' hi' hs=>(upd_ne _ _ (by have hi2:i' < c.j:=hi';omega)).trans (h.dw i' hi' hs)) (fun _ _=>qw _ _ _) ⟨st,sm,h1,fun f2 hf2 hk2 _=>by rw [hk2 rfl];exact h2⟩ hrc
  (fun i' hi' e=>by omega) (fun i' r hi' e=>by omega) (fun e=>.inr (hacq e)) ?_
 ·show CSit P Γ f' (upd c.d (L+n) _ (L+n)) C' (upd c.ρ (L+n) ρ' (L+n)) _ _ _
  rw [qw,qw];exact hsit
 ·rcases hlt with x | ⟨x,y,u⟩
  ·refine .inl ?_
   show wM n c.M+Ssum c+wC n (Vc c) C' < wM n c.M+Ssum c+wC n (Vc c) c.C
   omega
  ·refine .inr ⟨?_,.inr ⟨?_,u,rfl⟩⟩
   ·show wM n c.M+Ssum c+wC n (Vc c) C'=wM n c.M+Ssum c+wC n (Vc c) c.C
    omega
   ·show upd c.ρ (L+n) ρ'=c.ρ
    rw [y];funext k
    by_cases e:k=L+n
    ·subst e;rw [qw]
    ·rw [upd_ne _ _ e]
end
end Go.Fan
end
section
namespace Go.Fan
open Go Go.Conc Go.ConcN
open Go.ConcR (KK wgBlock WgAt stA smA rd wr mk DC0 g_of_ofEvents)
section
variable {P:Program} {Γ:Ge} {L n:Nat} {mv:Nat→Value} {z:Value} {Anch:(Nat→Prop)→Goroutine→World→Prop}
variable {w0:World} {c:Cf} {gs:Array Goroutine} {w:World} {sl:Option (Nat×Nat)} {t:Trace}
theorem cnt_le (s:Nat):cnt s≤1:=by unfold cnt;split <;> omega
theorem Vc_le:Vc c≤c.j:=by
 have:=sumTo_le (f:=fun i=>cnt (c.s i)) (c:=1) (j:=c.j) fun i _=>cnt_le _
 unfold Vc;omega
theorem Inv.none_mode (h:Inv P Γ L n mv z Anch w0 c gs w t) (hC:c.C=.none):WgAt Γ.ty Γ.Wg w (((Vc c+pend c.M:Nat):Int) * KK) 0∧OpenSt c:=by
 obtain ⟨st,sm,h1,h2⟩:=h.wg
 cases h2 with
 | opn _ h3 _=>exact ⟨h1,h3⟩
 | reg a _ _=>rw [hC] at a;exact a.elim
 | last _ a _ _ _=>rw [hC] at a;exact a.elim
 | sema a _ _=>rw [hC] at a;exact a.elim
 | fin a _=>rw [hC] at a;exact a.elim
theorem jQ {c':Cf} (hC:c'.C=.none) (ho:OpenSt c'):Mode c' (((Vc c'+pend c'.M:Nat):Int) * KK) 0 :=
 .opn (by rw [hC];trivial) ho fun vs e=>by rw [hC] at e;cases e
theorem YP (hC:c.C=.none):sg L n c=0:=by rw [sg,if_pos hC]
theorem zo {s k:Nat} {e:Event} (h:EvT Γ s k e):∀x∈#[e],EvT Γ s k x:=fun x hx=>by simp at hx;subst hx;exact h
theorem qdX (s k:Nat):∀x∈#[rd (stA Γ.Wg),wr (stA Γ.Wg)],EvT Γ s k x:=fun x hx=>by
 simp at hx
 rcases hx with rfl | rfl
 ·exact yD s k _ rfl false
 ·exact yD s k _ rfl true
theorem XO (s k:Nat):EvT Γ s k (mk .disable):=qbV s k rfl (fun _ _=>trivial) (by simp)
theorem qdW (s k:Nat):EvT Γ s k (mk .enable):=qbV s k rfl (fun _ _=>trivial) (by simp)
theorem zm {main qt:Bool} {Stop:Goroutine→World→Prop} {Stop':(Nat→Prop)→Goroutine→World→Prop} {X:World→Prop} {O:Nat→Prop} {g:Goroutine} (h:qG P main Γ.ty Γ.Wg Stop g w) (hX:∀w₁,Ry Γ O w w₁→X w₁)
 (hS:∀g w,Stop g w→X w→Stop' O g w):∃ρ,Walk P main Γ qt Stop' ρ O g w :=
 (Way.of_thence (qt:=qt) h hX).mono fun O' g w ⟨h1,h2,h3⟩=>h2▸hS g w h1 h3
theorem Inv.kd (h:Inv P Γ L n mv z Anch w0 c gs w t) {r:Nat} {a:Goroutine} (hM:c.M=.kd r) (h0:gs[0]? = some a) (hs:StM P Γ n mv z Anch c.got (.kd r) (c.O 0) a w):Nx P Γ L n mv z Anch w0 c t (runT P (crowd gs w sl) 0):=by
 obtain ⟨g₀,⟨_,g',hst,hth⟩,hway⟩:=hs
 have ht:r < n∧c.j+(r+1)=n∧c.C=.none:=by simpa only [ZJ,hM] using h.tags
 have hr:c.got=[]∧∀i,i < c.j→8≤c.s i:=by simpa only [ZI,hM] using h.rc
 obtain ⟨m1,m2⟩:=h.none_mode ht.2.2
 obtain ⟨ρ',hw⟩:=zm (qt:=false) (Stop':=StM P Γ n mv z Anch c.got (.up r)) (O:=c.O 0) hth (fun w₁ hr=>hway.rely hr) fun g w h1 h2=>⟨g₀,h1,h2⟩
 refine h.mturn (M':=.up r) h0 hst (.refl w) (zo (XO _ _)) (.run (by simp) hw) (by simp) ht (by rw [h.dm,hM];rfl) ⟨_,_,m1,?_⟩ hr (by rw [hM];simp [wM])
 rw [hM];exact jQ (c':={ c with M:=.up r }) ht.2.2 m2
theorem Inv.up (h:Inv P Γ L n mv z Anch w0 c gs w t) {r:Nat} {a:Goroutine} (hM:c.M=.up r) (h0:gs[0]? = some a) (hs:StM P Γ n mv z Anch c.got (.up r) (c.O 0) a w):Nx P Γ L n mv z Anch w0 c t (runT P (crowd gs w sl) 0):=by
 obtain ⟨g₀,⟨_,hst⟩,hway⟩:=hs
 have ht:r < n∧c.j+(r+1)=n∧c.C=.none:=by simpa only [ZJ,hM] using h.tags
 have hr:c.got=[]∧∀i,i < c.j→8≤c.s i:=by simpa only [ZI,hM] using h.rc
 obtain ⟨m1,m2⟩:=h.none_mode ht.2.2
 have hn:=h.geo.2.2.2.2
 have hv:=Vc_le (c:=c)
 rw [hM] at m1
 simp only [pend,Nat.add_zero] at m1
 obtain ⟨g',h1,h2⟩:=hst (Vc c) (by omega) m1
 have hb:=But.set (Γ:=Γ) w (stA Γ.Wg) rfl (Value.int .u64 ((((Vc c:Nat):Int)+1) * KK))
 have hwg:WgAt Γ.ty Γ.Wg (w.setCell (stA Γ.Wg) (.int .u64 ((((Vc c:Nat):Int)+1) * KK))) (((Vc c+1:Nat):Int) * KK) 0:=by
  have:=m1.setSt ((((Vc c:Nat):Int)+1) * KK)
  simpa using this
 have hX:∀w₁,Ry Γ (c.O 0) (w.setCell (stA Γ.Wg) (.int .u64 ((((Vc c:Nat):Int)+1) * KK))) w₁→Way P true Γ false (MGo P Γ mv (n - (r+1)) (MSp P Γ n mv z Anch r)) (c.O 0) g₀ w₁:=fun w₁ hr=>hway.rely ((hb.ry (h.nO 0) ⟨_,_,hwg⟩).trans hr)
 by_cases hz:Vc c=0
 ·simp only [hz,if_true] at h2
  obtain ⟨ρ',hw⟩:=zm (qt:=false) (Stop':=StM P Γ n mv z Anch c.got (.rd r)) (O:=c.O 0) (by simpa [hz] using h2) hX fun g w h1 h2=>⟨g₀,h1,h2⟩
  refine h.mturn (M':=.rd r) h0 h1 hb (qdX _ _) (.run (by simp) hw) (by simp) ht (by rw [h.dm,hM];rfl) ⟨_,_,hwg,?_⟩ hr (by rw [hM];simp [wM])
  exact jQ (c':={ c with M:=.rd r }) ht.2.2 m2
 ·simp only [if_neg hz] at h2
  obtain ⟨ρ',hw⟩:=zm (qt:=false) (Stop':=StM P Γ n mv z Anch c.got (.ke r)) (O:=c.O 0) h2 hX fun g w h1 h2=>⟨g₀,h1,h2⟩
  refine h.mturn (M':=.ke r) h0 h1 hb (qdX _ _) (.run (by simp) hw) (by simp) ht (by rw [h.dm,hM];rfl) ⟨_,_,hwg,?_⟩ hr (by rw [hM];simp [wM])
  exact jQ (c':={ c with M:=.ke r }) ht.2.2 m2
theorem Inv.rdM (h:Inv P Γ L n mv z Anch w0 c gs w t) {r:Nat} {a:Goroutine} (hM:c.M=.rd r) (h0:gs[0]? = some a) (hs:StM P Γ n mv z Anch c.got (.rd r) (c.O 0) a w):Nx P Γ L n mv z Anch w0 c t (runT P (crowd gs w sl) 0):=by
 obtain ⟨g₀,⟨_,g',hst,hth⟩,hway⟩:=hs
 have ht:r < n∧c.j+(r+1)=n∧c.C=.none:=by simpa only [ZJ,hM] using h.tags
 have hr:c.got=[]∧∀i,i < c.j→8≤c.s i:=by simpa only [ZI,hM] using h.rc
 obtain ⟨m1,m2⟩:=h.none_mode ht.2.2
 obtain ⟨ρ',hw⟩:=zm (qt:=false) (Stop':=StM P Γ n mv z Anch c.got (.ke r)) (O:=c.O 0) hth (fun w₁ hr=>hway.rely hr) fun g w h1 h2=>⟨g₀,h1,h2⟩
 refine h.mturn (M':=.ke r) h0 hst (.refl w) (zo (by rw [YP ht.2.2];exact qbW 0 rfl (fun B hB=>hB) (by simp))) (.run (by simp) hw) (by simp) ht (by rw [h.dm,hM];rfl) ⟨_,_,m1,?_⟩ hr (by rw [hM];simp [wM])
 rw [hM];exact jQ (c':={ c with M:=.ke r }) ht.2.2 m2
theorem Inv.keM (h:Inv P Γ L n mv z Anch w0 c gs w t) {r:Nat} {a:Goroutine} (hM:c.M=.ke r) (h0:gs[0]? = some a) (hs:StM P Γ n mv z Anch c.got (.ke r) (c.O 0) a w):Nx P Γ L n mv z Anch w0 c t (runT P (crowd gs w sl) 0):=by
 obtain ⟨g₀,⟨_,g',hst,hth⟩,hway⟩:=hs
 have ht:r < n∧c.j+(r+1)=n∧c.C=.none:=by simpa only [ZJ,hM] using h.tags
 have hr:c.got=[]∧∀i,i < c.j→8≤c.s i:=by simpa only [ZI,hM] using h.rc
 obtain ⟨m1,m2⟩:=h.none_mode ht.2.2
 obtain ⟨ρ',hw⟩:Way P true Γ false (StM P Γ n mv z Anch c.got (.go r)) (c.O 0) g' w:=by
  refine (Way.of_thence (qt:=false) (X:=fun w=>Way P true Γ false (MGo P Γ mv (n - (r+1)) (MSp P Γ n mv z Anch r)) (c.O 0) g₀ w) hth fun w₁ hr=>hway.rely hr).bind ?_
  rintro O g w ⟨rfl,rfl,h3⟩
  exact h3
 refine h.mturn (M':=.go r) h0 hst (.refl w) (zo (qdW _ _)) (.run (by simp) hw) (by simp) ht (by rw [h.dm,hM];rfl) ⟨_,_,m1,?_⟩ hr (by rw [hM];simp [wM])
 rw [hM];exact jQ (c':={ c with M:=.go r }) ht.2.2 m2
end
end Go.Fan
end
section
namespace Go.Fan
open Go Go.Conc Go.ConcN
open Go.ConcR (KK wgBlock WgAt stA smA rd wr mk DC0 g_of_ofEvents)
section
variable {P:Program} {Γ:Ge} {L n:Nat} {mv:Nat→Value} {z:Value} {Anch:(Nat→Prop)→Goroutine→World→Prop}
variable {w0:World} {c:Cf} {gs:Array Goroutine} {w:World} {sl:Option (Nat×Nat)} {t:Trace}
theorem Mode.opnV {c:Cf} {v:Nat} (h1:isOpen c.C) (h2:OpenSt c) (h3:∀vs,c.C=.cas vs→Vc c≤vs∧1≤vs) (e:Vc c+pend c.M=v):Mode c ((v:Int) * KK) 0:=by subst e;exact .opn h1 h2 h3
theorem Mode.regV {c:Cf} {v:Nat} (h1:Qy c.C) (h2:OpenSt c) (h3:1≤v) (e:Vc c=v):Mode c ((v:Int) * KK+1) 0:=by subst e;exact .reg h1 h2 h3
theorem Mode.counted {st sm:Int} (h:Mode c st sm) {k i s' d f':Nat} {ρ:Rank} (hi:i < c.j) (h5:5≤c.s i) (h5':5≤s'):Mode { c.w k i s' d ρ with f:=f' } st sm:=by
 have hv:Vc { c.w k i s' d ρ with f:=f' }=Vc c:=by
  have:=Vc_w (k:=k) (s:=s') (d:=d) (ρ:=ρ) hi
  have e1:cnt (c.s i)=1:=by simp [cnt,h5]
  have e2:cnt s'=1:=by simp [cnt,h5']
  have e3:Vc { c.w k i s' d ρ with f:=f' }=Vc (c.w k i s' d ρ):=rfl
  omega
 have ho:OpenSt c→OpenSt { c.w k i s' d ρ with f:=f' }:=fun ho i' hi'=>by
  show 5≤upd c.s i s' i'∨upd c.s i s' i'=1
  by_cases e:i'=i
  ·subst e;rw [qw];exact .inl h5'
  ·rw [upd_ne _ _ e];exact ho i' hi'
 cases h with
 | opn h1 h2 h3=>rw [← hv];exact .opn (c:={ c.w k i s' d ρ with f:=f' }) h1 (ho h2) (fun vs e=>by rw [hv];exact h3 vs e)
 | reg h1 h2 h3=>rw [← hv];exact .reg (c:={ c.w k i s' d ρ with f:=f' }) h1 (ho h2) (by rw [hv];exact h3)
 | last l h1 h2 h3 h4 =>
   by_cases e:i=l
   ·subst e;omega
   ·have:=h4 i hi e;omega
 | sema h1 h2 h3=>have:=h3 i hi;omega
 | fin h1 h2=>have:=h2 i hi;omega
theorem Mode.last_of {st sm:Int} (h:Mode c st sm) {i:Nat} (hi:i < c.j) (hs:c.s i=4∨c.s i=3∨c.s i=2):Qy c.C∧(∀i',i' < c.j→i'≠i→c.s i'=1)∧st=(if c.s i=2 then 0 else 1)∧sm=0:=by
 cases h with
 | opn h1 h2 h3=>have:=h2 i hi;omega
 | reg h1 h2 h3=>have:=h2 i hi;omega
 | last l h1 h2 h3 h4 =>
   by_cases e:i=l
   ·subst e;exact ⟨h1,h4,rfl,rfl⟩
   ·have:=h4 i hi e;omega
 | sema h1 h2 h3=>have:=h3 i hi;omega
 | fin h1 h2=>have:=h2 i hi;omega
theorem xP {es:Array Event} (h:∀e∈es,∃a wr,e=⟨.cell a,wr,true⟩) (d:Nat):deafBehind d es=d :=
 deafBehind_idle (fun e he=>by obtain ⟨a,wr,rfl⟩:=h e he;exact ⟨by simp,by simp⟩) d
theorem yY {k:Nat} {fn:FuncId} {pos:String} {es:Array Event} {d r:Nat} {a:Addr} (hd:Deaf t k=d) (h1:1≤d) (h:∀e∈es,∃a wr,e=⟨.cell a,wr,true⟩) (hr:RelBy a t k r):RelBy a (t ++ MemOp.ofEvents k fn pos es) k r:=by
 refine hr.appOwn _ _ _ fun j e he=>.inr ⟨?_,?_⟩
 ·obtain ⟨a,wr,rfl⟩:=h e (Array.mem_of_getElem? he);exact ⟨a,wr,rfl⟩
 ·rw [xP (fun x hx=>h x ?_),hd]
  ·exact h1
  ·obtain ⟨m,hm,rfl⟩:=Array.mem_iff_getElem.1 hx
   rw [Array.getElem_extract]
   exact Array.getElem_mem _
theorem Xl {k:Nat} {fn:FuncId} {pos:String} {m:Mark} {r:Nat} {a:Addr} (hm:(MemAct.mark m).touch? = none) (hr:RelBy a t k r):RelBy a (t ++ MemOp.ofEvents k fn pos #[mk m]) k r :=
 hr.appOwn _ _ _ fun j e he=>.inl (by
  have:=Array.mem_of_getElem? he
  simp at this;subst this;exact hm)
theorem ZV:∀e∈#[rd (stA Γ.Wg),wr (stA Γ.Wg)],∃a wr,e=⟨.cell a,wr,true⟩:=fun e he=>by
 simp at he
 rcases he with rfl | rfl
 ·exact ⟨_,_,rfl⟩
 ·exact ⟨_,_,rfl⟩
theorem Inv.w7 (h:Inv P Γ L n mv z Anch w0 c gs w t) {i:Nat} (hi:i < c.j) (hS:c.s i=7) {a:Goroutine} (h0:gs[L+i]? = some a) (hs:WRel P Γ a w):Nx P Γ L n mv z Anch w0 c t (runT P (crowd gs w sl) (L+i)):=by
 obtain ⟨_,g',hst,hth⟩:=hs
 have hlt:=(Array.getElem?_eq_some_iff.1 h0).1
 have hd:c.d (L+i)=0:=by rw [h.dw i hi (by omega),hS];rfl
 obtain ⟨st,sm,m1,m2⟩:=h.wg
 obtain ⟨ρ',hw⟩:=zm (qt:=true) (Stop':=StW P Γ (mv i) 6) (O:=c.O (L+i)) (X:=fun _=>True) hth (fun _ _=>trivial) fun g w h1 _=>h1
 refine h.wturn hi (s':=6) (d':=0) h0 hst (.refl w) (zo (qbV _ _ rfl (fun B hB=>hB) (by simp))) (.run (by decide) (by decide) hw) (by rw [hd];rfl) (fun _=>rfl) ⟨st,sm,m1,fun f' _ _=>m2.counted hi (by omega) (by omega)⟩ (by omega) (by omega) (fun _ _=>?_) (fun r hr=>by omega)
 exact ⟨_,RelBy.new (by rw [h.deaf _ hlt,hd]) _ _⟩
theorem Inv.w6 (h:Inv P Γ L n mv z Anch w0 c gs w t) {i:Nat} (hi:i < c.j) (hS:c.s i=6) {a:Goroutine} (h0:gs[L+i]? = some a) (hs:ZR P false Γ.ty Γ.Wg .disable (WD1 P Γ) a w):Nx P Γ L n mv z Anch w0 c t (runT P (crowd gs w sl) (L+i)):=by
 obtain ⟨_,g',hst,hth⟩:=hs
 have hd:c.d (L+i)=0:=by rw [h.dw i hi (by omega),hS];rfl
 obtain ⟨st,sm,m1,m2⟩:=h.wg
 obtain ⟨ρ',hw⟩:=zm (qt:=true) (Stop':=StW P Γ (mv i) 5) (O:=c.O (L+i)) (X:=fun _=>True) hth (fun _ _=>trivial) fun g w h1 _=>h1
 refine h.wturn hi (s':=5) (d':=1) h0 hst (.refl w) (zo (XO _ _)) (.run (by decide) (by decide) hw) (by rw [hd];rfl) (fun _=>rfl) ⟨st,sm,m1,fun f' _ _=>m2.counted hi (by omega) (by omega)⟩ (by omega) (by omega) (fun _ hr=>?_) (fun r _ hr=>Xl rfl hr)
 obtain ⟨r,hr⟩:=hr (by omega)
 exact ⟨r,Xl rfl hr⟩
theorem Inv.w5 (h:Inv P Γ L n mv z Anch w0 c gs w t) {i:Nat} (hi:i < c.j) (hS:c.s i=5) {a:Goroutine} (h0:gs[L+i]? = some a) (hs:WD1 P Γ a w):Nx P Γ L n mv z Anch w0 c t (runT P (crowd gs w sl) (L+i)):=by
 obtain ⟨_,hst⟩:=hs
 have hlt:=(Array.getElem?_eq_some_iff.1 h0).1
 have hd:c.d (L+i)=1:=by rw [h.dw i hi (by omega),hS];rfl
 have hdf:Deaf t (L+i)=1:=(h.deaf _ hlt).trans hd
 have hn:=h.geo.2.2.2.2
 have hjn:=h.jn
 have hvl:=Vc_le (c:=c)
 have hdb:deafBehind (c.d (L+i)) #[rd (stA Γ.Wg),wr (stA Γ.Wg)]=1:=by rw [xP ZV,hd]
 have hrel:(c.s i≤6→∃r,RelBy (stA Γ.Wg) t (L+i) r)→∃r,RelBy (stA Γ.Wg) (t ++ MemOp.ofEvents (L+i) a.frame.fn a.frame.place #[rd (stA Γ.Wg),wr (stA Γ.Wg)]) (L+i) r:=fun hr=>by
  obtain ⟨r,hr⟩:=hr (by omega)
  exact ⟨r,yY hdf (Nat.le_refl _) ZV hr⟩
 have hbook:∀r,c.s i≤6→RelBy (stA Γ.Wg) t (L+i) r→RelBy (stA Γ.Wg) (t ++ MemOp.ofEvents (L+i) a.frame.fn a.frame.place #[rd (stA Γ.Wg),wr (stA Γ.Wg)]) (L+i) r:=fun r _ hr=>yY hdf (Nat.le_refl _) ZV hr
 have hc1:cnt (c.s i)=1:=by rw [hS];rfl
 have hv1:1≤Vc c:=by
  have:=le_sumTo (f:=fun i=>cnt (c.s i)) hi
  unfold Vc
  have e:cnt (c.s i)≤sumTo c.j fun i=>cnt (c.s i):=this
  omega
 have quit:∀(v wt:Nat) (g':Goroutine) (q:Nat) (st':Int),stepG P false a w=.go g' (w.setCell (stA Γ.Wg) (.int .u64 st')) #[rd (stA Γ.Wg),wr (stA Γ.Wg)]→QuitsD P q 1 g'→WgAt Γ.ty Γ.Wg (w.setCell (stA Γ.Wg) (.int .u64 st')) st' 0 →
  (∀ρ f',(f'=c.f∨f'=1)→Mode { c.w (L+i) i 1 1 ρ with f:=f' } st' 0)→Nx P Γ L n mv z Anch w0 c t (runT P (crowd gs w sl) (L+i)):=fun v wt g' q st' e1 e2 e3 e4 =>
  h.wturn hi (s':=1) (d':=1) (ρ':=.of q) h0 e1 (.set _ _ rfl _) (qdX _ _) (.quit e2) hdb (fun x=>absurd rfl x) ⟨_,_,e3,fun f' hf' _=>e4 _ f' hf'⟩ (by omega) (by omega) (fun _=>hrel) hbook
 have hvq:∀ρ f',Vc { c.w (L+i) i 1 1 ρ with f:=f' }+1=Vc c:=fun ρ f'=>by
  have:=Vc_w (k:=L+i) (s:=1) (d:=1) (ρ:=ρ) hi
  have e3:Vc { c.w (L+i) i 1 1 ρ with f:=f' }=Vc (c.w (L+i) i 1 1 ρ):=rfl
  have e4:cnt 1=0:=rfl
  omega
 have hoq:OpenSt c→∀ρ f',OpenSt { c.w (L+i) i 1 1 ρ with f:=f' }:=fun ho ρ f' i' hi'=>by
  show 5≤upd c.s i 1 i'∨upd c.s i 1 i'=1
  by_cases e:i'=i
  ·subst e;rw [qw];exact .inr rfl
  ·rw [upd_ne _ _ e];exact ho i' hi'
 obtain ⟨st,sm,m1,m2⟩:=h.wg
 cases m2 with
 | opn h1 h2 h3 =>
   obtain ⟨v,hv⟩:∃v,Vc c+pend c.M=v+1:=⟨Vc c+pend c.M - 1,by omega⟩
   have hp:pend c.M≤1:=by cases c.M <;> simp [pend]
   have hpj:Vc c+pend c.M≤n:=by
    have:=h.tags
    unfold ZJ at this
    cases e:c.M <;> simp only [e] at this <;> simp only [pend] <;> omega
   rw [hv] at m1
   obtain ⟨g',e1,_,e3⟩:=hst v 0 (by omega) (by omega) (by simpa using m1)
   obtain ⟨q,e3⟩:=e3 (by omega)
   have m1':=m1.setSt ((v:Int) * KK)
   refine quit v 0 g' q ((v:Int) * KK) (by simpa using e1) e3 m1' fun ρ f' _=>?_
   refine .opnV (c:={ c.w (L+i) i 1 1 ρ with f:=f' }) h1 (hoq h2 ρ f') (fun vs e=>by have:=h3 vs e;have:=hvq ρ f';omega) ?_
   have:=hvq ρ f'
   show _+pend c.M=v
   omega
 | reg h1 h2 h3 =>
   obtain ⟨v,hv⟩:∃v,Vc c=v+1:=⟨Vc c - 1,by omega⟩
   rw [hv] at m1
   obtain ⟨g',e1,e2,e3⟩:=hst v 1 (by omega) (by omega) (by simpa using m1)
   have m1':=m1.setSt ((v:Int) * KK+1)
   by_cases hz:v=0
   ·subst hz
    obtain ⟨ρ',hw⟩:=zm (qt:=true) (Stop':=StW P Γ (mv i) 4) (O:=c.O (L+i)) (X:=fun _=>True) (e2 ⟨rfl,rfl⟩) (fun _ _=>trivial) fun g w h1 _=>h1
    refine h.wturn hi (s':=4) (d':=1) h0 e1 (.set _ _ rfl _) (qdX _ _) (.run (by decide) (by decide) hw) hdb (fun _=>rfl) ⟨_,_,by simpa using m1',fun f' hf' _=>?_⟩ (by omega) (by omega) (fun _=>hrel) hbook
    have hs4:({ c.w (L+i) i 4 1 ρ' with f:=f' }:Cf).s i=4:=qw _ _ _
    have:=Mode.last (c:={ c.w (L+i) i 4 1 ρ' with f:=f' }) i h1 hi (.inl hs4) fun i' hi' hne=>by
     show upd c.s i 4 i'=1
     rw [upd_ne _ _ hne]
     rcases h2 i' hi' with h5 | h5
     ·exfalso
      have hle:=le_sumTo (f:=fun a=>cnt (upd c.s i 1 a)) hi'
      have e5:cnt (upd c.s i 1 i')=1:=by rw [upd_ne _ _ hne];simp [cnt,h5]
      have e6:(sumTo c.j fun a=>cnt (upd c.s i 1 a))+1=Vc c:=hvq ρ' f'
      have e7:cnt (upd c.s i 1 i')≤sumTo c.j fun a=>cnt (upd c.s i 1 a):=hle
      omega
     ·exact h5
    rw [hs4] at this
    simpa using this
   ·obtain ⟨q,e3⟩:=e3 (by omega)
    refine quit v 1 g' q ((v:Int) * KK+1) (by simpa using e1) e3 m1' fun ρ f' _=>?_
    exact .regV (c:={ c.w (L+i) i 1 1 ρ with f:=f' }) h1 (hoq h2 ρ f') (by omega) (by have:=hvq ρ f';omega)
 | last l h1 h2 h3 h4 =>
   by_cases e:i=l
   ·subst e;omega
   ·have:=h4 i hi e;omega
 | sema h1 h2 h3=>have:=h3 i hi;omega
 | fin h1 h2=>have:=h2 i hi;omega
theorem Inv.w4 (h:Inv P Γ L n mv z Anch w0 c gs w t) {i:Nat} (hi:i < c.j) (hS:c.s i=4) {a:Goroutine} (h0:gs[L+i]? = some a) (hs:WD2 P Γ a w):Nx P Γ L n mv z Anch w0 c t (runT P (crowd gs w sl) (L+i)):=by
 obtain ⟨_,hst⟩:=hs
 have hlt:=(Array.getElem?_eq_some_iff.1 h0).1
 have hd:c.d (L+i)=1:=by rw [h.dw i hi (by omega),hS];rfl
 have hdf:Deaf t (L+i)=1:=(h.deaf _ hlt).trans hd
 have hcs:∀e∈#[rd (stA Γ.Wg)],∃a wr,e=⟨.cell a,wr,true⟩:=fun e he=>by simp at he;subst he;exact ⟨_,_,rfl⟩
 obtain ⟨st,sm,m1,m2⟩:=h.wg
 obtain ⟨l1,l2,rfl,rfl⟩:=m2.last_of hi (.inl hS)
 rw [hS] at m1
 obtain ⟨g',e1,e2⟩:=hst (by simpa using m1)
 obtain ⟨ρ',hw⟩:=zm (qt:=true) (Stop':=StW P Γ (mv i) 3) (O:=c.O (L+i)) (X:=fun _=>True) e2 (fun _ _=>trivial) fun g w h1 _=>h1
 refine h.wturn hi (s':=3) (d':=1) h0 e1 (.refl w) (zo (yD _ _ _ rfl _)) (.run (by decide) (by decide) hw) (by rw [xP hcs,hd]) (fun _=>rfl) ⟨_,_,m1,fun f' _ _=>?_⟩ (by omega) (by omega) (fun _ hr=>?_) (fun r _ hr=>yY hdf (Nat.le_refl _) hcs hr)
 ·have hs3:({ c.w (L+i) i 3 1 ρ' with f:=f' }:Cf).s i=3:=qw _ _ _
  have:=Mode.last (c:={ c.w (L+i) i 3 1 ρ' with f:=f' }) i l1 hi (.inr (.inl hs3)) fun i' hi' hne=>by
   show upd c.s i 3 i'=1
   rw [upd_ne _ _ hne];exact l2 i' hi' hne
  rw [hs3] at this
  simpa using this
 ·obtain ⟨r,hr⟩:=hr (by omega)
  exact ⟨r,yY hdf (Nat.le_refl _) hcs hr⟩
theorem Inv.w3 (h:Inv P Γ L n mv z Anch w0 c gs w t) {i:Nat} (hi:i < c.j) (hS:c.s i=3) {a:Goroutine} (h0:gs[L+i]? = some a) (hs:WD3 P Γ a w):Nx P Γ L n mv z Anch w0 c t (runT P (crowd gs w sl) (L+i)):=by
 obtain ⟨_,hst⟩:=hs
 have hlt:=(Array.getElem?_eq_some_iff.1 h0).1
 have hd:c.d (L+i)=1:=by rw [h.dw i hi (by omega),hS];rfl
 have hdf:Deaf t (L+i)=1:=(h.deaf _ hlt).trans hd
 have hcs:∀e∈#[wr (stA Γ.Wg)],∃a wr,e=⟨.cell a,wr,true⟩:=fun e he=>by simp at he;subst he;exact ⟨_,_,rfl⟩
 obtain ⟨st,sm,m1,m2⟩:=h.wg
 obtain ⟨l1,l2,rfl,rfl⟩:=m2.last_of hi (.inr (.inl hS))
 rw [hS] at m1
 obtain ⟨g',e1,e2⟩:=hst (by simpa using m1)
 have m1':=m1.setSt 0
 obtain ⟨ρ',hw⟩:=zm (qt:=true) (Stop':=StW P Γ (mv i) 2) (O:=c.O (L+i)) (X:=fun _=>True) e2 (fun _ _=>trivial) fun g w h1 _=>h1
 refine h.wturn hi (s':=2) (d':=1) h0 e1 (.set _ _ rfl _) (zo (yD _ _ _ rfl _)) (.run (by decide) (by decide) hw) (by rw [xP hcs,hd]) (fun _=>rfl) ⟨_,_,m1',fun f' _ _=>?_⟩ (by omega) (by omega) (fun _ hr=>?_) (fun r _ hr=>yY hdf (Nat.le_refl _) hcs hr)
 ·have hs3:({ c.w (L+i) i 2 1 ρ' with f:=f' }:Cf).s i=2:=qw _ _ _
  have:=Mode.last (c:={ c.w (L+i) i 2 1 ρ' with f:=f' }) i l1 hi (.inr (.inr hs3)) fun i' hi' hne=>by
   show upd c.s i 2 i'=1
   rw [upd_ne _ _ hne];exact l2 i' hi' hne
  rw [hs3] at this
  simpa using this
 ·obtain ⟨r,hr⟩:=hr (by omega)
  exact ⟨r,yY hdf (Nat.le_refl _) hcs hr⟩
theorem sem_ev (s k:Nat):∀e∈semEvents (smA Γ.Wg),EvT Γ s k e:=fun e he=>by
 simp [semEvents] at he
 rcases he with rfl | rfl | rfl | rfl
 ·exact XO s k
 ·exact yD s k _ rfl false
 ·exact yD s k _ rfl true
 ·exact qdW s k
theorem qbU (d:Nat) (a:Addr):deafBehind d (semEvents a)=d:=by simp [deafBehind,semEvents]
theorem Inv.w2 (h:Inv P Γ L n mv z Anch w0 c gs w t) {i:Nat} (hi:i < c.j) (hS:c.s i=2) {a:Goroutine} (h0:gs[L+i]? = some a) (hs:WD4 P Γ a w):Nx P Γ L n mv z Anch w0 c t (runT P (crowd gs w sl) (L+i)):=by
 obtain ⟨_,hmw,hst⟩:=hs
 have hlt:=(Array.getElem?_eq_some_iff.1 h0).1
 have hd:c.d (L+i)=1:=by rw [h.dw i hi (by omega),hS];rfl
 have hdf:Deaf t (L+i)=1:=(h.deaf _ hlt).trans hd
 have hbook:∀r,RelBy (stA Γ.Wg) t (L+i) r→RelBy (stA Γ.Wg) (t ++ MemOp.ofEvents (L+i) a.frame.fn a.frame.place (semEvents (smA Γ.Wg))) (L+i) r:=fun r hr=>by
  refine hr.appOwn _ _ _ fun j e he=>?_
  rw [hdf]
  match j,he with
  | 0,he=>simp [semEvents] at he;subst he;exact .inl rfl
  | 1,he=>simp [semEvents] at he;subst he;exact .inr ⟨⟨_,_,rfl⟩,by simp [deafBehind,semEvents]⟩
  | 2,he=>simp [semEvents] at he;subst he;exact .inr ⟨⟨_,_,rfl⟩,by simp [deafBehind,semEvents]⟩
  | 3,he=>simp [semEvents] at he;subst he;exact .inl rfl
  | j+4,he=>simp [semEvents] at he
 obtain ⟨st,sm,m1,m2⟩:=h.wg
 obtain ⟨l1,l2,rfl,rfl⟩:=m2.last_of hi (.inr (.inr hS))
 rw [hS] at m1
 obtain ⟨g',e1,e2,q,e3⟩:=hst (by simpa using m1)
 have m1':=m1.setSm 1
 refine h.wturn hi (s':=1) (d':=1) (ρ':=.of q) h0 e1 (.set _ _ rfl _) (sem_ev _ _) (.quit e3) (by rw [qbU,hd]) (fun x=>absurd rfl x) ⟨_,_,m1',fun f' _ hf=>?_⟩ (by omega) (by omega) (fun _ hr=>?_) (fun r _ hr=>hbook r hr)
 ·have:=Mode.sema (c:={ c.w (L+i) i 1 1 (.of q) with f:=f' }) l1 (fun e=>hf hmw e2 e) fun i' hi'=>by
   show upd c.s i 1 i'=1
   by_cases e:i'=i
   ·subst e;rw [qw]
   ·rw [upd_ne _ _ e];exact l2 i' hi' e
  simpa using this
 ·obtain ⟨r,hr⟩:=hr (by omega)
  exact ⟨r,hbook r hr⟩
end
end Go.Fan
end
section
namespace Go.Fan
open Go Go.Conc Go.ConcN
open Go.ConcR (KK wgBlock WgAt stA smA rd wr mk DC0 g_of_ofEvents)
section
variable {P:Program} {Γ:Ge} {L n:Nat} {mv:Nat→Value} {z:Value} {Anch:(Nat→Prop)→Goroutine→World→Prop}
variable {w0:World} {c:Cf} {gs:Array Goroutine} {w:World} {sl:Option (Nat×Nat)} {t:Trace}
theorem Walk.monoO {main qt:Bool} {Stop:(Nat→Prop)→Goroutine→World→Prop} (hS:∀O O' g w,(∀b,O b→O' b)→Stop O g w→Stop O' g w):∀{ρ:Rank} {O O':Nat→Prop} {g:Goroutine} {w:World},(∀b,O b→O' b)→Walk P main Γ qt Stop ρ O g w→Walk P main Γ qt Stop ρ O' g w:=by
 intro ρ
 induction ρ with
 | zero=>exact fun hO h w₁ hr=>hS _ _ _ _ hO (h w₁ (hr.mono hO))
 | node f ih =>
   intro O O' g w hO h
   rcases h with h | ⟨hs,h⟩
   ·exact .inl fun w₁ hr=>hS _ _ _ _ hO (h w₁ (hr.mono hO))
   ·refine .inr ⟨hs,fun w₁ hr=>?_⟩
    have:=h w₁ (hr.mono hO)
    cases e:stepG P main g w₁ with
    | go g' w' es =>
      rw [e,goes_go] at this
      obtain ⟨⟨h1,h2⟩,h3⟩:=this
      refine ⟨⟨⟨h1.size,fun b hb hn=>h1.stay b hb fun ho=>hn (hO b ho),h1.tape,h1.os,h1.output,fun x hx=>?_⟩,h2⟩,ih _ (fun b hb=>hb.imp (hO b) id) h3⟩
      obtain ⟨a,b,d⟩:=h1.evs x hx
      refine ⟨fun y hy=>?_,b,d⟩
      obtain ⟨k1,bb,k2,k3⟩:=a y hy
      exact ⟨k1,bb,k2,k3.imp id fun x=>x.imp (hO bb) id⟩
    | _=>rw [e] at this;exact this.elim
theorem Inv.pend0 (h:Inv P Γ L n mv z Anch w0 c gs w t) (hN:c.C≠.none):pend c.M=0:=by
 have:=h.tags
 unfold ZJ at this
 cases e:c.M <;> simp only [e] at this <;> first | rfl | exact absurd this.2.2 hN
theorem Inv.open_mode (h:Inv P Γ L n mv z Anch w0 c gs w t) (hN:c.C≠.none) (hC:isOpen c.C):WgAt Γ.ty Γ.Wg w (((Vc c:Nat):Int) * KK) 0∧OpenSt c∧∀vs,c.C=.cas vs→Vc c≤vs∧1≤vs:=by
 obtain ⟨st,sm,h1,h2⟩:=h.wg
 have hp:=h.pend0 hN
 cases h2 with
 | opn _ h3 h4=>rw [hp] at h1;exact ⟨h1,h3,h4⟩
 | reg a _ _=>revert a hC;cases c.C <;> simp [isOpen,Qy]
 | last _ a _ _ _=>revert a hC;cases c.C <;> simp [isOpen,Qy]
 | sema a _ _=>revert a hC;cases c.C <;> simp [isOpen,Qy]
 | fin a _=>revert a hC;cases c.C <;> simp [isOpen,isFin]
theorem Inv.fin_mode (h:Inv P Γ L n mv z Anch w0 c gs w t) (hC:isFin c.C):WgAt Γ.ty Γ.Wg w 0 0∧AllQuit c:=by
 obtain ⟨st,sm,h1,h2⟩:=h.wg
 cases h2 with
 | opn a _ _=>revert a hC;cases c.C <;> simp [isOpen,isFin]
 | reg a _ _=>revert a hC;cases c.C <;> simp [isFin,Qy]
 | last _ a _ _ _=>revert a hC;cases c.C <;> simp [isFin,Qy]
 | sema a _ _=>revert a hC;cases c.C <;> simp [isFin,Qy]
 | fin _ a=>exact ⟨h1,a⟩
theorem XL (d:Nat) (a:Addr):deafBehind d #[rd a]=d:=by simp [deafBehind,rd]
theorem qdR {m:Mark} (d:Nat) (h1:m≠.disable) (h2:m≠.enable):deafBehind d #[mk m]=d:=Go.ConcR.deafBehind_one (fun e=>h1 (Loc.mark.inj e)) (fun e=>h2 (Loc.mark.inj e)) d
theorem qbY {Hd:Goroutine→World→Prop} {g₀ g:Goroutine} {O:Nat→Prop} (h:qG P false Γ.ty Γ.Wg Hd g w) (hb:CBack P Γ Hd g₀ w):∃ρ,Walk P false Γ false (StC P Γ .look) ρ O g w:=by
 refine (Way.of_thence (qt:=false) (X:=fun w=>CBack P Γ Hd g₀ w) h fun w₁ hr=>hb.rely hr).bind ?_
 rintro O g w ⟨h1,rfl,h3⟩
 exact zm (X:=fun w=>CBack P Γ Hd g₀ w) (h3.rnd _ _ h1) (fun w₁ hr=>h3.rely hr) fun g w h4 h5=>⟨Hd,g₀,h4,h5⟩
section
variable {a:Goroutine}
theorem Inv.c_kd (h:Inv P Γ L n mv z Anch w0 c gs w t) (h0:gs[L+n]? = some a) (hC:c.C=.kd) (hs:StC P Γ .kd (c.O (L+n)) a w):Nx P Γ L n mv z Anch w0 c t (runT P (crowd gs w sl) (L+n)):=by
 obtain ⟨Hd,g₀,⟨_,g',hst,hth⟩,hb⟩:=hs
 have hN:c.C≠.none:=by rw [hC];simp
 have hd:c.d (L+n)=0:=by rw [h.dc hN (by rw [hC];simp),hC];rfl
 obtain ⟨m1,m2,_⟩:=h.open_mode hN (by rw [hC];trivial)
 obtain ⟨ρ',hw⟩:=qbY (O:=c.O (L+n)) hth hb
 have hv:=Vc_le (c:=c)
 have hjn:=h.jn
 exact h.cturn (C':=.look) (f':=1) hN (by rw [hC];simp) (by simp) (by simp) h0 hst (.refl w) (zo (XO _ _)) (.run (by simp) (by simp) (by simp) hw) (by rw [hd];rfl) ⟨_,_,m1,.opnV (c:=c.c (L+n) .look 1 (dC .look) ρ') trivial m2 (by simp) (by rw [show (c.c (L+n) .look 1 (dC .look) ρ').M=c.M from rfl,h.pend0 hN];rfl)⟩ (by simp) (.inl (by rw [hC];simp only [wC];omega))
theorem Inv.c_look (h:Inv P Γ L n mv z Anch w0 c gs w t) (h0:gs[L+n]? = some a) (hC:c.C=.look) (hs:StC P Γ .look (c.O (L+n)) a w):Nx P Γ L n mv z Anch w0 c t (runT P (crowd gs w sl) (L+n)):=by
 obtain ⟨Hd,g₀,⟨_,hst⟩,hb⟩:=hs
 have hN:c.C≠.none:=by rw [hC];simp
 have hd:c.d (L+n)=1:=by rw [h.dc hN (by rw [hC];simp),hC];rfl
 obtain ⟨m1,m2,_⟩:=h.open_mode hN (by rw [hC];trivial)
 have hv:=Vc_le (c:=c)
 have hjn:=h.jn
 have hn:=h.geo.2.2.2.2
 obtain ⟨g',e1,e2,e3⟩:=hst (Vc c) (by omega) m1
 by_cases hz:Vc c=0
 ·obtain ⟨ρ',hw⟩:=zm (qt:=false) (Stop':=StC P Γ .ke) (O:=c.O (L+n)) (X:=fun w=>CBack P Γ Hd g₀ w) (e2 hz) (fun w₁ hr=>hb.rely hr) fun g w h4 h5=>⟨Hd,g₀,h4,h5⟩
  have hq:AllQuit c:=fun i hi=>(m2 i hi).resolve_left fun h5=>by
   have hle:=le_sumTo (f:=fun i=>cnt (c.s i)) hi
   have e5:cnt (c.s i)=1:=by simp [cnt,h5]
   have e6:cnt (c.s i)≤Vc c:=hle
   omega
  rw [hz] at m1
  exact h.cturn (C':=.ke) (f':=1) hN (by rw [hC];simp) (by simp) (by simp) h0 e1 (.refl w) (zo (yD _ _ _ rfl _)) (.run (by simp) (by simp) (by simp) hw) (by rw [XL,hd];rfl) ⟨0,0,by simpa using m1,.fin (c:=c.c (L+n) .ke 1 (dC .ke) ρ') trivial hq⟩ (by simp) (.inl (by rw [hC];simp only [wC];omega))
 ·obtain ⟨ρ',hw⟩:=zm (qt:=false) (Stop':=StC P Γ (.cas (Vc c))) (O:=c.O (L+n)) (X:=fun w=>CBack P Γ Hd g₀ w) (e3 hz) (fun w₁ hr=>hb.rely hr) fun g w h4 h5=>⟨Hd,g₀,h4,h5⟩
  exact h.cturn (C':=.cas (Vc c)) (f':=1) hN (by rw [hC];simp) (by simp) (by simp) h0 e1 (.refl w) (zo (yD _ _ _ rfl _)) (.run (by simp) (by simp) (by simp) hw) (by rw [XL,hd];rfl) ⟨_,_,m1,.opnV (c:=c.c (L+n) (.cas (Vc c)) 1 (dC (.cas (Vc c))) ρ') trivial m2 (fun vs e=>by cases e;exact ⟨Nat.le_refl (Vc c),show 1≤Vc c by omega⟩) (by rw [show (c.c (L+n) (.cas (Vc c)) 1 (dC (.cas (Vc c))) ρ').M=c.M from rfl,h.pend0 hN];rfl)⟩ (by simp) (.inl (by rw [hC];simp only [wC];omega))
theorem Inv.c_cas {vs:Nat} (h:Inv P Γ L n mv z Anch w0 c gs w t) (h0:gs[L+n]? = some a) (hC:c.C=.cas vs) (hs:StC P Γ (.cas vs) (c.O (L+n)) a w):Nx P Γ L n mv z Anch w0 c t (runT P (crowd gs w sl) (L+n)):=by
 obtain ⟨Hd,g₀,⟨_,hst⟩,hb⟩:=hs
 have hN:c.C≠.none:=by rw [hC];simp
 have hd:c.d (L+n)=1:=by rw [h.dc hN (by rw [hC];simp),hC];rfl
 obtain ⟨m1,m2,m3⟩:=h.open_mode hN (by rw [hC];trivial)
 obtain ⟨m3,m4⟩:=m3 vs hC
 have hv:=Vc_le (c:=c)
 have hjn:=h.jn
 have hn:=h.geo.2.2.2.2
 obtain ⟨e1,e2⟩:=hst (Vc c) (by omega) m1
 by_cases hz:Vc c=vs
 ·obtain ⟨g',e1,e3⟩:=e1 hz
  have m1':=m1.setSt (((Vc c:Nat):Int) * KK+1)
  have hbut:=But.set (Γ:=Γ) w (stA Γ.Wg) rfl (Value.int .u64 (((Vc c:Nat):Int) * KK+1))
  obtain ⟨ρ',hw⟩:=zm (qt:=false) (Stop':=StC P Γ .wm) (O:=c.O (L+n)) (X:=fun w=>CBack P Γ Hd g₀ w) e3 (fun w₁ hr=>(hb.rely (hbut.ry (h.nO (L+n)) ⟨_,_,m1'⟩)).rely hr) fun g w h4 h5=>⟨Hd,g₀,h4,h5⟩
  exact h.cturn (C':=.wm) (f':=1) hN (by rw [hC];simp) (by simp) (by simp) h0 e1 hbut (qdX _ _) (.run (by simp) (by simp) (by simp) hw) (by rw [xP ZV,hd];rfl) ⟨_,_,m1',.regV (c:=c.c (L+n) .wm 1 (dC .wm) ρ') trivial m2 (by omega) rfl⟩ (by simp) (.inl (by rw [hC];simp only [wC];omega))
 ·obtain ⟨g',e1,e3⟩:=e2 hz
  obtain ⟨ρ',hw⟩:=qbY (O:=c.O (L+n)) e3 hb
  exact h.cturn (C':=.look) (f':=1) hN (by rw [hC];simp) (by simp) (by simp) h0 e1 (.refl w) (zo (yD _ _ _ rfl _)) (.run (by simp) (by simp) (by simp) hw) (by rw [XL,hd];rfl) ⟨_,_,m1,.opnV (c:=c.c (L+n) .look 1 (dC .look) ρ') trivial m2 (by simp) (by rw [show (c.c (L+n) .look 1 (dC .look) ρ').M=c.M from rfl,h.pend0 hN];rfl)⟩ (by simp) (.inl (by rw [hC];simp only [wC];omega))
theorem Inv.reg_mode {C':CTg} {f' d:Nat} {ρ:Rank} {st sm:Int} (hm:Mode c st sm) (hC:Qy c.C) (hC':Qy C') (hf:C'=.sem→f'=1∨sm=0):Mode (c.c (L+n) C' f' d ρ) st sm:=by
 cases hm with
 | opn a _ _=>revert a hC;cases c.C <;> simp [isOpen,Qy]
 | reg a b e=>exact .reg (c:=c.c (L+n) C' f' d ρ) hC' b e
 | last l a b e f=>exact .last (c:=c.c (L+n) C' f' d ρ) l hC' b e f
 | sema a b e=>exact .sema (c:=c.c (L+n) C' f' d ρ) hC' (fun x=>(hf x).resolve_right (by decide)) e
 | fin a _=>revert a hC;cases c.C <;> simp [isFin,Qy]
theorem Inv.c_wm (h:Inv P Γ L n mv z Anch w0 c gs w t) (h0:gs[L+n]? = some a) (hC:c.C=.wm) (hs:StC P Γ .wm (c.O (L+n)) a w):Nx P Γ L n mv z Anch w0 c t (runT P (crowd gs w sl) (L+n)):=by
 obtain ⟨Hd,g₀,⟨_,g',hst,hth⟩,hb⟩:=hs
 have hN:c.C≠.none:=by rw [hC];simp
 have hd:c.d (L+n)=1:=by rw [h.dc hN (by rw [hC];simp),hC];rfl
 obtain ⟨st,sm,m1,m2⟩:=h.wg
 obtain ⟨ρ',hw⟩:=zm (qt:=false) (Stop':=StC P Γ .sem) (O:=c.O (L+n)) (X:=fun w=>CBack P Γ Hd g₀ w) hth (fun w₁ hr=>hb.rely hr) fun g w h4 h5=>⟨Hd,g₀,h4,h5⟩
 exact h.cturn (C':=.sem) (f':=1) hN (by rw [hC];simp) (by simp) (by simp) h0 hst (.refl w) (zo (qbW (L+n) rfl (fun B hB=>hB) (by simp))) (.run (by simp) (by simp) (fun _=>rfl) hw) (by rw [qdR _ (by simp) (by simp),hd];rfl) ⟨_,_,m1,Inv.reg_mode m2 (by rw [hC];trivial) trivial fun _=>.inl rfl⟩ (by simp) (.inl (by rw [hC];simp only [wC];omega))
theorem Inv.c_sem (h:Inv P Γ L n mv z Anch w0 c gs w t) (h0:gs[L+n]? = some a) (hC:c.C=.sem) (hf:c.f=1) (hs:∀w₁,Ry Γ (c.O (L+n)) w w₁→StC P Γ .sem (c.O (L+n)) a w₁):Nx P Γ L n mv z Anch w0 c t (runT P (crowd gs w sl) (L+n)):=by
 obtain ⟨Hd,g₀,⟨h1,h2,h3,h4⟩,hb⟩:=hs w (.refl w)
 have hN:c.C≠.none:=by rw [hC];simp
 have hd:c.d (L+n)=1:=by rw [h.dc hN (by rw [hC];simp),hC];rfl
 obtain ⟨st,sm,m1,m2⟩:=h.wg
 by_cases hsm:sm=0
 ·subst hsm
  have hst:=h3 ⟨st,m1⟩
  exact h.cturn (C':=.sem) (f':=0) (ρ':=c.ρ (L+n)) hN (by rw [hC];simp) (by simp) (by simp) h0 hst (.refl w) (by simp) (.blk rfl h2 hs) (by rw [hd];rfl) ⟨_,_,m1,Inv.reg_mode m2 (by rw [hC];trivial) trivial fun _=>.inr rfl⟩ (by simp) (.inr ⟨by rw [hC],rfl,by omega⟩)
 ·have hq:AllQuit c∧st=0∧sm=1:=by
   cases m2 with
   | sema a b e=>exact ⟨e,rfl,rfl⟩
   | _=>exact absurd rfl hsm
  obtain ⟨hq,rfl,rfl⟩:=hq
  obtain ⟨g',e1,e2⟩:=h4 m1
  have m1':=m1.setSm 0
  have hbut:=But.set (Γ:=Γ) w (smA Γ.Wg) rfl (Value.int .u32 0)
  obtain ⟨ρ',hw⟩:=zm (qt:=false) (Stop':=StC P Γ .seen) (O:=c.O (L+n)) (X:=fun w=>CBack P Γ Hd g₀ w) e2 (fun w₁ hr=>(hb.rely (hbut.ry (h.nO (L+n)) ⟨_,_,m1'⟩)).rely hr) fun g w h4 h5=>⟨Hd,g₀,h4,h5⟩
  exact h.cturn (C':=.seen) (f':=1) hN (by rw [hC];simp) (by simp) (by simp) h0 e1 hbut (sem_ev _ _) (.run (by simp) (by simp) (by simp) hw) (by rw [qbU,hd];rfl) ⟨_,_,m1',.fin (c:=c.c (L+n) .seen 1 (dC .seen) ρ') trivial hq⟩ (by simp) (.inl (by rw [hC];simp only [wC];omega))
theorem Inv.c_seen (h:Inv P Γ L n mv z Anch w0 c gs w t) (h0:gs[L+n]? = some a) (hC:c.C=.seen) (hs:StC P Γ .seen (c.O (L+n)) a w):Nx P Γ L n mv z Anch w0 c t (runT P (crowd gs w sl) (L+n)):=by
 obtain ⟨Hd,g₀,⟨_,hst⟩,hb⟩:=hs
 have hN:c.C≠.none:=by rw [hC];simp
 have hd:c.d (L+n)=1:=by rw [h.dc hN (by rw [hC];simp),hC];rfl
 obtain ⟨m1,m2⟩:=h.fin_mode (by rw [hC];trivial)
 obtain ⟨g',e1,e2⟩:=hst m1
 obtain ⟨ρ',hw⟩:=zm (qt:=false) (Stop':=StC P Γ .ke) (O:=c.O (L+n)) (X:=fun w=>CBack P Γ Hd g₀ w) e2 (fun w₁ hr=>hb.rely hr) fun g w h4 h5=>⟨Hd,g₀,h4,h5⟩
 exact h.cturn (C':=.ke) (f':=1) hN (by rw [hC];simp) (by simp) (by simp) h0 e1 (.refl w) (zo (yD _ _ _ rfl _)) (.run (by simp) (by simp) (by simp) hw) (by rw [XL,hd];rfl) ⟨_,_,m1,.fin (c:=c.c (L+n) .ke 1 (dC .ke) ρ') trivial m2⟩ (by simp) (.inl (by rw [hC];simp only [wC];omega))
theorem Inv.c_ke (h:Inv P Γ L n mv z Anch w0 c gs w t) (h0:gs[L+n]? = some a) (hC:c.C=.ke) (hs:StC P Γ .ke (c.O (L+n)) a w):Nx P Γ L n mv z Anch w0 c t (runT P (crowd gs w sl) (L+n)):=by
 obtain ⟨Hd,g₀,⟨_,g',hst,hth⟩,hb⟩:=hs
 have hN:c.C≠.none:=by rw [hC];simp
 have hd:c.d (L+n)=1:=by rw [h.dc hN (by rw [hC];simp),hC];rfl
 obtain ⟨m1,m2⟩:=h.fin_mode (by rw [hC];trivial)
 obtain ⟨ρ',hw⟩:=zm (qt:=false) (Stop':=StC P Γ .acq) (O:=c.O (L+n)) (X:=fun w=>CBack P Γ Hd g₀ w) hth (fun w₁ hr=>hb.rely hr) fun g w h4 h5=>⟨Hd,g₀,h4,h5⟩
 exact h.cturn (C':=.acq) (f':=1) hN (by rw [hC];simp) (by simp) (by simp) h0 hst (.refl w) (zo (qdW _ _)) (.run (by simp) (by simp) (by simp) hw) (by rw [hd];rfl) ⟨_,_,m1,.fin (c:=c.c (L+n) .acq 1 (dC .acq) ρ') trivial m2⟩ (by simp) (.inl (by rw [hC];simp only [wC];omega))
theorem Inv.c_acq (h:Inv P Γ L n mv z Anch w0 c gs w t) (h0:gs[L+n]? = some a) (hC:c.C=.acq) (hs:StC P Γ .acq (c.O (L+n)) a w):Nx P Γ L n mv z Anch w0 c t (runT P (crowd gs w sl) (L+n)):=by
 obtain ⟨Hd,g₀,⟨_,g',hst,hth⟩,hb⟩:=hs
 have hN:c.C≠.none:=by rw [hC];simp
 have hlt:=(Array.getElem?_eq_some_iff.1 h0).1
 have hd:c.d (L+n)=0:=by rw [h.dc hN (by rw [hC];simp),hC];rfl
 have hdf:Deaf t (L+n)=0:=(h.deaf _ hlt).trans hd
 have hjn:=h.jN hN
 obtain ⟨m1,m2⟩:=h.fin_mode (by rw [hC];trivial)
 obtain ⟨ρ',hw⟩:Way P false Γ false (qbD P Γ) (c.O (L+n)) g' w:=by
  refine (Way.of_thence (qt:=false) (X:=fun w=>CBack P Γ Hd g₀ w) hth fun w₁ hr=>hb.rely hr).bind ?_
  rintro O g w ⟨rfl,rfl,h3⟩
  obtain ⟨ρ,h4⟩:=h3.way
  exact ⟨ρ,h4.monoO (fun _ _ _ _ _ x=>x) fun b x=>x.elim⟩
 refine h.cturn (C':=.cl) (f':=1) hN (by rw [hC];simp) (by simp) (by simp) h0 hst (.refl w) (zo (qbV (m:=.acquire (stA Γ.Wg)) _ _ rfl (fun B hB=>hB) (by simp))) (.run (by simp) (by simp) (by simp) hw) (by rw [qdR _ (by simp) (by simp),hd];rfl) ⟨_,_,m1,.fin (c:=c.c (L+n) .cl 1 (dC .cl) ρ') trivial m2⟩ (fun _=>?_) (.inl (by rw [hC];simp only [wC];omega))
 have e1:MemOp.ofEvents (L+n) a.frame.fn a.frame.place #[Go.ConcR.mk (.acquire (stA Γ.Wg))]=#[{ g:=L+n,fn:=a.frame.fn,pos:=a.frame.place,act:=.mark (.acquire (stA Γ.Wg)) }]:=by rw [ofEvents_eq];simp [Go.ConcR.ofEvent_mk]
 rw [e1]
 have hy:(t ++ #[({ g:=L+n,fn:=a.frame.fn,pos:=a.frame.place,act:=.mark (.acquire (stA Γ.Wg)) }:MemOp)])[t.size]? = some { g:=L+n,fn:=a.frame.fn,pos:=a.frame.place,act:=.mark (.acquire (stA Γ.Wg)) }:=by simp
 refine ⟨t.size,by rw [act?_of hy],by rw [g?_of hy],⟨L+n,by rw [g?_of hy],by rw [deaf_old (Nat.le_refl _)];exact hdf⟩,fun i hi=>?_⟩
 obtain ⟨r,hr⟩:=h.rel i (by omega) (by rw [m2 i (by omega)];omega)
 exact ⟨r,hr.appOther (g:=L+n) (fun op hop=>by simp at hop;rw [hop]) (by omega),lt_of_act? hr.act⟩
end
end
end Go.Fan
end
section
namespace Go.Fan
open Go Go.Conc Go.ConcN
open Go.ConcR (KK wgBlock WgAt stA smA rd wr DC0 g_of_ofEvents)
section
variable {P:Program} {Γ:Ge} {L n:Nat} {mv:Nat→Value} {z:Value} {Anch:(Nat→Prop)→Goroutine→World→Prop}
variable {w0:World} {c:Cf} {gs:Array Goroutine} {w w':World} {sl:Option (Nat×Nat)} {t:Trace}
structure ButC (Γ:Ge) (w w':World):Prop where
 blk:∀b,b≠Γ.Ch→w'.heap[b]? = w.heap[b]?
 size:w'.heap.size=w.heap.size
 tape:w'.tape=w.tape
 os:w'.os=w.os
 output:w'.output=w.output
theorem qdL (w:World) (o:Obj) (d:Nat):ButC Γ w { (w.at d) with heap:=w.heap.setIfInBounds Γ.Ch o } :=
 ⟨fun b hb=>Array.getElem?_setIfInBounds_ne (Ne.symm hb),by simp,rfl,rfl,rfl⟩
theorem ButC.ry {O:Nat→Prop} (h:ButC Γ w w') (hO:¬ O Γ.Ch) (hne:Γ.Ch≠Γ.Wg):Ry Γ O w w' :=
 ⟨Nat.le_of_eq h.size.symm,fun b _ ho=>h.blk b fun e=>(ho.elim (fun x=>x.2.2.1 e) fun x=>hO (e▸x)),fun ⟨st,sm,hl⟩=>⟨st,sm,hl.of_block (h.blk _ (Ne.symm hne))⟩,h.tape,h.os,h.output⟩
theorem Inv.nOC (h:Inv P Γ L n mv z Anch w0 c gs w t) (k:Nat):¬ c.O k Γ.Ch:=fun ho=>by
 have:=(h.not_ro ho).1
 have:=h.geo.2.2.1
 omega
theorem Inv.c_cl {a:Goroutine} (h:Inv P Γ L n mv z Anch w0 c gs w t) (h0:gs[L+n]? = some a) (hC:c.C=.cl) (hs:qbD P Γ (c.O (L+n)) a w):Nx P Γ L n mv z Anch w0 c t (runT P (crowd gs w sl) (L+n)):=by
 obtain ⟨_,hmw,hst⟩:=hs
 have hL:=h.geo.1
 have hgeo:=h.geo
 have hk:(L+n == 0)=false:=by simp;omega
 have hN:c.C≠.none:=by rw [hC];simp
 have hlt:=(Array.getElem?_eq_some_iff.1 h0).1
 have hd:c.d (L+n)=0:=by rw [h.dc hN (by rw [hC];simp),hC];rfl
 have hdf:Deaf t (L+n)=0:=(h.deaf _ hlt).trans hd
 obtain ⟨m1,m2⟩:=h.fin_mode (by rw [hC];trivial)
 obtain ⟨cl,s,r,tm,hch,hcq⟩:=h.ch
 have hcl:cl=false:=by
  cases cl with
  | false=>rfl
  | true=>have:=hcq.1 rfl;rw [hC] at this;cases this
 subst hcl
 obtain ⟨g',q,e1,e2⟩:=hst s r tm hch
 have hb:ButC Γ w (w.shut Γ.Ch s r tm):=qdL w _ w.drawn
 have hCl:Γ.Ch < w.heap.size:=by have:=h.fr.size;omega
 have hne:=hgeo.2.2.2.1
 have hch':(w.shut Γ.Ch s r tm).heap[Γ.Ch]? = some (.chan 0 #[] true s r tm):=by
  show (w.heap.setIfInBounds Γ.Ch _)[Γ.Ch]? = _
  simp [hCl]
 have eu:MemOp.ofEvents (L+n) a.frame.fn a.frame.place #[⟨.obj Γ.Ch,false,true⟩,⟨.obj Γ.Ch,true,true⟩]=#[{ g:=L+n,fn:=a.frame.fn,pos:=a.frame.place,act:=.access ⟨.obj Γ.Ch,false,true⟩ },{ g:=L+n,fn:=a.frame.fn,pos:=a.frame.place,act:=.close Γ.Ch }]:=by rw [ofEvents_eq];simp [MemAct.ofEvent]
 have hy:(t ++ #[({ g:=L+n,fn:=a.frame.fn,pos:=a.frame.place,act:=.access ⟨.obj Γ.Ch,false,true⟩ }:MemOp),{ g:=L+n,fn:=a.frame.fn,pos:=a.frame.place,act:=.close Γ.Ch }])[t.size+1]? = some { g:=L+n,fn:=a.frame.fn,pos:=a.frame.place,act:=.close Γ.Ch }:=by simp
 refine h.step (c':={ c with C:=.quit,ρ:=upd c.ρ (L+n) (.of q) }) h0 (by rw [hk];exact e1) rfl ⟨fun e=>(by cases e),fun e=>absurd e hN⟩ (fun k' hk'=>⟨fun _=>⟨rfl,rfl⟩,fun i hi _=>⟨hi,rfl⟩,fun e=>absurd e hk',rfl,rfl,upd_ne _ _ hk'⟩) (.inl rfl)
  (fun k' _ _=>hb.ry (h.nOC k') hne) (.inr fun i hi _=>by rw [m2 i hi];decide) (.close rfl ?_) ?_ ?_ h.dm h.dw (fun _ x=>absurd rfl x) ⟨0,0,m1.of_block (hb.blk _ (Ne.symm hne)),fun f' _ _ _=>.fin (c:={ c with C:=.quit,ρ:=upd c.ρ (L+n) (.of q),f:=f' }) trivial m2⟩
  ⟨true,s,r,tm,hch',iff_of_true rfl rfl⟩ h.rc (by rw [hb.size,show own L n { c with C:=.quit,ρ:=upd c.ρ (L+n) (.of q) }=own L n c by unfold own;rw [xM (c:=c) (c':={ c with C:=.quit,ρ:=upd c.ρ (L+n) (.of q) }) rfl ⟨fun e=>(by cases e),fun e=>absurd e hN⟩]];exact h.dis) ?_ (fun e he=>by simp at he;rcases he with rfl | rfl <;> simp)
  (fun i hi e=>by have:=h.jn;omega) (fun i r hi e=>by have:=h.jn;omega) (fun e=>by cases e) (fun _=>.inr ?_) (fun b _ _ h2=>hb.blk b h2) (Nat.le_of_eq hb.size.symm) hb.tape hb.os hb.output (fun hn=>absurd (.inr (.inr ⟨hN,rfl⟩)) hn) (fun r' hM=>?_) (.inl ?_)
 ·show CSit P Γ c.f (c.d (L+n)) .quit (upd c.ρ (L+n) (.of q) (L+n)) _ _ _
  rw [qw,hd];exact .quit e2
 ·have:=h.tags
  unfold ZJ at this ⊢
  cases e:c.M <;> simp only [e] at this ⊢
  all_goals first | exact absurd this.2.2 hN | exact absurd this.2 hN | exact ⟨this.1,by simp⟩
 ·show deafBehind (c.d (L+n)) _=c.d (L+n)
  simp [deafBehind]
 ·rw [show own L n { c with C:=.quit,ρ:=upd c.ρ (L+n) (.of q) }=own L n c by unfold own;rw [xM (c:=c) (c':={ c with C:=.quit,ρ:=upd c.ρ (L+n) (.of q) }) rfl ⟨fun e=>(by cases e),fun e=>absurd e hN⟩],hb.size,eu]
  refine h.tr.app h.dis (.inr (.inr ⟨hN,rfl⟩)) hlt (Nat.le_refl _) (fun k' b hb=>.inl hb) fun op hop=>?_
  simp at hop
  rcases hop with rfl | rfl
  ·refine ⟨rfl,hCl,fun x hx=>?_⟩
   simp only [MemAct.touch?,Option.some.injEq] at hx
   subst hx
   exact .chan rfl rfl
  ·exact ⟨rfl,hCl,fun x hx=>by cases hx⟩
 ·rw [eu]
  obtain ⟨q,hq⟩:=h.acq hC
  have hjN:=h.jN hN
  refine ⟨q,t.size+1,hq.app fun i r hi hr=>hr.appOther (g:=L+n) (fun op hop=>by simp at hop;rcases hop with rfl | rfl <;> rfl) (by omega),Nat.lt_succ_of_lt (lt_of_act? hq.1),by rw [act?_of hy],by rw [g?_of hy],⟨L+n,by rw [g?_of hy],?_⟩,fun i hi hg=>?_⟩
  ·have hx:(t ++ #[({ g:=L+n,fn:=a.frame.fn,pos:=a.frame.place,act:=.access ⟨.obj Γ.Ch,false,true⟩ }:MemOp),{ g:=L+n,fn:=a.frame.fn,pos:=a.frame.place,act:=.close Γ.Ch }])[t.size]? = some { g:=L+n,fn:=a.frame.fn,pos:=a.frame.place,act:=.access ⟨.obj Γ.Ch,false,true⟩ }:=by simp
   rw [deaf_succ hx,deaf_old (Nat.le_refl _)]
   exact hdf
  obtain ⟨op,hop,_⟩:=Option.map_eq_some_iff.1 hg
  have:=lt_size_of_getElem? hop
  simp at this
  omega
 ·have hM':c.M=.blk r':=hM
  have hlt0:0 < gs.size:=by omega
  obtain ⟨b,hb0⟩:∃b,gs[0]? = some b:=⟨gs[0],by simp [hlt0]⟩
  have hs0:=h.sit0 hb0
  rw [hM'] at hs0
  have hst':=e2.status
  have hwk:∀x:Goroutine,woken P a g' (w.shut Γ.Ch s r tm) x=x.again (w.shut Γ.Ch s r tm):=fun x=>by
   unfold woken
   rw [if_pos]
   rcases hst' with e | e <;> rw [hmw,e] <;> rfl
  generalize c.ρ 0=ρ0 at hs0
  generalize c.O 0=O0 at hs0
  cases hs0 with
  | run x _=>exact absurd rfl (x _)
  | @blk _ _ g1 _ _ x y =>
    rcases x with rfl | rfl
    ·exact ⟨_,by rw [get_map_set _ _ _ _ (by omega),hb0,Option.map_some,hwk,again_recv_closed hch'],fun _=>rfl,fun x=>absurd rfl x⟩
    ·exact ⟨_,by rw [get_map_set _ _ _ _ (by omega),hb0,Option.map_some,woken_run rfl],fun _=>rfl,fun x=>absurd rfl x⟩
 ·show wM n c.M+Ssum c+wC n (Vc c) .quit < wM n c.M+Ssum c+wC n (Vc c) c.C
  rw [hC];simp only [wC];omega
theorem Inv.fresh (h:Inv P Γ L n mv z Anch w0 c gs w t):Deaf t gs.size=0:=Deaf_absent fun i op hi e=>by have:=h.tr.gs i op hi;omega
theorem Inv.spawn (h:Inv P Γ L n mv z Anch w0 c gs w t) {c':Cf} {a g' child:Goroutine} (h0:gs[0]? = some a) (hgo:stepG P true a w=.spawn g' child w #[])
 (hsz:gs.size+1=L+c'.j+isN c') (hlike:∀k',k' < gs.size→k'≠0→Like L n c c' k') (hf:c'.f=c.f∨c.C=.none)
 (hs0:Sit P Γ L n mv z Anch c' 0 g' w) (hsN:Sit P Γ L n mv z Anch c' gs.size child w) (htags:ZJ n c') (hd0:c'.d 0=0) (hdN:c'.d gs.size=0) (hc0:c.d 0=0) (hdm:dM c'.M=0)
 (hdw:∀i,i < c'.j→c'.s i≠1→c'.d (L+i)=dW (c'.s i)) (hdc:c'.C≠.none→c'.C≠.quit→c'.d (L+n)=dC c'.C)
 (hnb:∀r,c'.M≠.blk r) (hwg:∃st sm,WgAt Γ.ty Γ.Wg w st sm∧Mode c' st sm) (hC:c.C=.none) (hC':c'.C=.none∨c'.C=.kd) (hrc:ZI n c')
 (hact:∀k,Act L n c' k↔Act L n c k∨k=gs.size) (ho:∀k b,own L n c' k b→own L n c k b∨(k=gs.size∧own L n c 0 b)) (hdis:Dis Γ (own L n c') w.heap.size)
 (hsg:sg L n c'=0∨sg L n c'=gs.size) (hs7:∀i,i < c'.j→7≤c'.s i) (hono:∀k,¬ Act L n c' k→∀b,¬ c'.O k b) (hlt:(μ n c').1 < (μ n c).1) :
 Nx P Γ L n mv z Anch w0 c t (runT P (crowd gs w sl) 0):=by
 have hgeo:=h.geo
 have hlt0:=(Array.getElem?_eq_some_iff.1 h0).1
 have hdf0:Deaf t 0=0:=(h.deaf 0 hlt0).trans hc0
 have hrun:=runT_crowd_spawn (P:=P) (sl:=sl) (i:=0) h0 (by simpa using hgo)
 have hu:((MemOp.ofEvents 0 a.frame.fn a.frame.place #[]).push { g:=0,fn:=a.frame.fn,pos:=a.frame.place,act:=.go gs.size } |>.push { g:=gs.size,fn:=child.frame.fn,pos:=a.frame.place,act:=.start })
  = #[({ g:=0,fn:=a.frame.fn,pos:=a.frame.place,act:=.go gs.size }:MemOp),{ g:=gs.size,fn:=child.frame.fn,pos:=a.frame.place,act:=.start }]:=by rw [ofEvents_eq];simp
 have hnone:∀op∈#[({ g:=0,fn:=a.frame.fn,pos:=a.frame.place,act:=.go gs.size }:MemOp),{ g:=gs.size,fn:=child.frame.fn,pos:=a.frame.place,act:=.start }],op.act≠.mark .disable∧op.act≠.mark .enable∧op.act≠.mark (.release (stA Γ.Wg)):=fun op hop=>by
  simp at hop
  rcases hop with rfl | rfl <;> simp
 have hdeaf:∀k,Deaf (t ++ #[({ g:=0,fn:=a.frame.fn,pos:=a.frame.place,act:=.go gs.size }:MemOp),{ g:=gs.size,fn:=child.frame.fn,pos:=a.frame.place,act:=.start }]) k=Deaf t k:=fun k =>
  Deaf_still t k _ fun op hop=>⟨(hnone op hop).1,(hnone op hop).2.1⟩
 refine ⟨c',(gs.setIfInBounds 0 g').push child,w,sl,_,hrun,.inl hlt,?_⟩
 rw [hu]
 have hsize:((gs.setIfInBounds 0 g').push child).size=gs.size+1:=by simp
 refine ⟨hgeo,by rw [hsize,hsz],htags,fun k x hx=>?_,fun k hk=>?_,by rw [hd0,hdm],hdw,hdc,hwg,?_,hrc,hdis,?_,h.nor.app fun op hop=>(hnone op hop).2.2,fun i hi hs=>?_,fun e=>?_,fun e=>?_,h.fr,hono,fun r e=>absurd e (hnb r)⟩
 ·rw [Array.getElem?_push] at hx
  split at hx
  ·cases hx
   rename_i e
   simp at e
   rw [e];exact hsN
  ·by_cases e:k=0
   ·subst e
    rw [Array.getElem?_setIfInBounds_self_of_lt hlt0] at hx
    cases hx;exact hs0
   ·rw [Array.getElem?_setIfInBounds_ne (Ne.symm e)] at hx
    have hkl:=(Array.getElem?_eq_some_iff.1 hx).1
    refine (h.sit k x hx).like (hlike k hkl e) ?_
    rcases hf with y | y
    ·exact .inl y
    ·refine .inr fun e=>?_
     have:=h.size
     rw [isN,if_pos hC] at this
     have:=h.jn
     omega
 ·rw [hsize] at hk
  rw [hdeaf]
  by_cases e:k=gs.size
  ·subst e;rw [h.fresh,hdN]
  ·by_cases e0:k=0
   ·subst e0;rw [hdf0,hd0]
   ·rw [h.deaf k (by omega)]
    exact (hlike k (by omega) e0).d.symm
 ·obtain ⟨cl,s,r,tm,h1,h2⟩:=h.ch
  refine ⟨cl,s,r,tm,h1,h2.trans ⟨fun e=>?_,fun e=>?_⟩⟩
  ·rw [hC] at e;cases e
  ·rcases hC' with y | y <;> rw [y] at e <;> cases e
 ·rw [hsize]
  exact h.tr.fork (.inl rfl) (by omega) hact ho (hsg.imp (fun y=>y.trans (YP hC).symm) (fun y=>⟨YP hC,y⟩)) (fun b hb=>by have:=h.act_lt hb.1;omega) ⟨rfl,rfl⟩ ⟨rfl,rfl⟩ hdf0
 ·have:=hs7 i hi;omega
 ·rcases hC' with y | y <;> rw [y] at e <;> cases e
 ·rcases hC' with y | y <;> rw [y] at e <;> cases e
theorem Inv.goM (h:Inv P Γ L n mv z Anch w0 c gs w t) {r:Nat} {a:Goroutine} (hM:c.M=.go r) (h0:gs[0]? = some a) (hs:StM P Γ n mv z Anch c.got (.go r) (c.O 0) a w):Nx P Γ L n mv z Anch w0 c t (runT P (crowd gs w sl) 0):=by
 obtain ⟨_,g',child,T,hst,hrun,hT,hW,hnext⟩:=hs
 have hL:=h.geo.1
 have ht:r < n∧c.j+(r+1)=n∧c.C=.none:=by simpa only [ZJ,hM] using h.tags
 have hr:c.got=[]∧∀i,i < c.j→8≤c.s i:=by simpa only [ZI,hM] using h.rc
 obtain ⟨m1,m2⟩:=h.none_mode ht.2.2
 have hsz:gs.size=L+c.j:=by have:=h.size;rw [isN,if_pos ht.2.2] at this;omega
 have hc0:c.d 0=0:=by rw [h.dm,hM];rfl
 obtain ⟨ρW,hW⟩:=hW
 have hi:n - (r+1)=c.j:=by omega
 rw [hi] at hW
 obtain ⟨M',ρ',hM1,hM2,hM3,hM4,hM5⟩:∃M' ρ',Walk P true Γ false (StM P Γ n mv z Anch c.got M') ρ' (fun b=>c.O 0 b∧¬ T b) g' w∧(∀q,M'≠.blk q)∧dM M'=0∧pend M'=0∧((r=0∧M'=.goc)∨∃r',r=r'+1∧M'=.kd r'):=by
  cases r with
  | zero=>obtain ⟨ρ',hw⟩:=hnext;exact ⟨.goc,ρ',hw,by simp,rfl,rfl,.inl ⟨rfl,rfl⟩⟩
  | succ r'=>obtain ⟨ρ',hw⟩:=hnext;exact ⟨.kd r',ρ',hw,by simp,rfl,rfl,.inr ⟨r',rfl,rfl⟩⟩
 let c':Cf:={ c with j:=c.j+1,M:=M',s:=upd c.s c.j 9,O:=upd (upd c.O 0 fun b=>c.O 0 b∧¬ T b) (L+c.j) T,d:=upd c.d (L+c.j) 0,ρ:=upd (upd c.ρ 0 ρ') (L+c.j) ρW }
 have hna:¬ Act L n c (L+c.j):=by
  rintro (e | ⟨i,hi,e⟩ | ⟨e,_⟩)
  ·omega
  ·omega
  ·exact e ht.2.2
 have hact:∀k,Act L n c' k↔Act L n c k∨k=gs.size:=fun k=>by
  rw [hsz]
  constructor
  ·rintro (e | ⟨i,hi,e⟩ | ⟨e,_⟩)
   ·exact .inl (.inl e)
   ·have hi':i < c.j+1:=hi
    by_cases e':i=c.j
    ·subst e';exact .inr e
    ·exact .inl (.inr (.inl ⟨i,by omega,e⟩))
   ·exact absurd ht.2.2 e
  ·rintro ((e | ⟨i,hi,e⟩ | ⟨e,_⟩) | e)
   ·exact .inl e
   ·exact .inr (.inl ⟨i,show i < c.j+1 by omega,e⟩)
   ·exact absurd ht.2.2 e
   ·exact .inr (.inl ⟨c.j,Nat.lt_succ_self _,e⟩)
 have hO0:c'.O 0=fun b=>c.O 0 b∧¬ T b:=by
  show upd (upd c.O 0 _) (L+c.j) T 0=_
  rw [upd_ne _ _ (by omega),qw]
 have hON:c'.O (L+c.j)=T:=qw _ _ _
 have hOk:∀k,k≠0→k≠L+c.j→c'.O k=c.O k:=fun k h1 h2=>by
  show upd (upd c.O 0 _) (L+c.j) T k=_
  rw [upd_ne _ _ h2,upd_ne _ _ h1]
 have ho:∀k b,own L n c' k b→own L n c k b∨(k=gs.size∧own L n c 0 b):=fun k b ⟨h1,h2⟩=>by
  by_cases e:k=L+c.j
  ·subst e;rw [hON] at h2;exact .inr ⟨hsz.symm,.inl rfl,hT b h2⟩
  ·by_cases e0:k=0
   ·subst e0;rw [hO0] at h2;exact .inl ⟨.inl rfl,h2.1⟩
   ·rw [hOk k e0 e] at h2
    exact .inl ⟨((hact k).1 h1).resolve_right (by omega),h2⟩
 have hvc:Vc c'=Vc c+1:=by
  show sumTo (c.j+1) (fun i=>cnt (upd c.s c.j 9 i))=_
  simp only [sumTo,qw]
  have e:sumTo c.j (fun i=>cnt (upd c.s c.j 9 i))=Vc c:=sumTo_congr fun i hi=>by rw [upd_ne _ _ (by omega)]
  rw [e];rfl
 have hsj:∀i,i < c.j+1→(i=c.j∧c'.s i=9)∨(i < c.j∧c'.s i=c.s i):=fun i hi=>by
  by_cases e:i=c.j
  ·subst e;exact .inl ⟨rfl,qw _ _ _⟩
  ·exact .inr ⟨by omega,upd_ne _ _ e⟩
 refine h.spawn (c':=c') h0 hst ?_ (fun k' hk' hk0=>⟨fun e=>absurd e hk0,fun i hi _=>⟨Nat.lt_succ_of_lt hi,upd_ne _ _ (by omega)⟩,fun _=>rfl,hOk k' hk0 (by omega),upd_ne _ _ (by omega),?_⟩) (.inl rfl)
  (.main rfl ?_) (.work (i:=c.j) (Nat.lt_succ_self _) hsz ?_) ?_ ?_ ?_ hc0 hM3 (fun i hi hs=>?_) (fun e=>absurd ht.2.2 e) hM2 ⟨_,_,m1,?_⟩ ht.2.2 (.inl ht.2.2) ?_ hact ho ?_ (.inl (YP (c:=c') ht.2.2)) (fun i hi=>?_) (fun k hk b hb=>?_) ?_
 ·rw [hsz,isN,if_pos (show c'.C=.none from ht.2.2)];show _=L+(c.j+1)+0;omega
 ·show upd (upd c.ρ 0 ρ') (L+c.j) ρW k'=c.ρ k'
  rw [upd_ne _ _ (by omega),upd_ne _ _ hk0]
 ·rw [show c'.ρ 0=ρ' by show upd (upd c.ρ 0 ρ') (L+c.j) ρW 0=ρ';rw [upd_ne _ _ (by omega),qw],hO0]
  exact .run hM2 hM1
 ·rw [hsz,hON,show c'.ρ (L+c.j)=ρW from qw _ _ _,show c'.d (L+c.j)=0 from qw _ _ _,show c'.s c.j=9 from qw _ _ _]
  exact .run (by decide) (by decide) hW
 ·rcases hM5 with ⟨rfl,rfl⟩ | ⟨r',rfl,rfl⟩
  ·exact ⟨show c.j+1=n by omega,ht.2.2⟩
  ·exact ⟨by omega,show c.j+1+(r'+1)=n by omega,ht.2.2⟩
 ·show upd c.d (L+c.j) 0 0=0
  rw [upd_ne _ _ (by omega)];exact hc0
 ·rw [hsz];exact qw _ _ _
 ·rcases hsj i hi with ⟨rfl,e⟩ | ⟨e1,e2⟩
  ·rw [e];exact qw _ _ _
  ·rw [e2] at hs ⊢
   show upd c.d (L+c.j) 0 (L+i)=_
   rw [upd_ne _ _ (by omega)];exact h.dw i e1 hs
 ·rw [hM]
  refine Mode.opnV (c:=c') (by rw [show c'.C=.none from ht.2.2];trivial) (fun i hi=>?_) (fun vs e=>by rw [show c'.C=.none from ht.2.2] at e;cases e) (by show Vc c'+pend M'=_;rw [hvc,hM4];rfl)
  rcases hsj i hi with ⟨rfl,e⟩ | ⟨e1,e2⟩
  ·rw [e];exact .inl (by omega)
  ·rw [e2];exact m2 i e1
 ·have:c'.got=[]∧∀i,i < c'.j→8≤c'.s i:=⟨hr.1,fun i hi=>by
   rcases hsj i hi with ⟨rfl,e⟩ | ⟨e1,e2⟩
   ·rw [e];omega
   ·rw [e2];exact hr.2 i e1⟩
  unfold ZI
  rcases hM5 with ⟨_,e⟩ | ⟨r',_,e⟩ <;> rw [show c'.M=M' from rfl,e] <;> exact this
 ·refine ⟨fun k k' b h1 h2=>?_,fun k b h1=>?_,fun k b h1=>?_,h.dis.wg,h.dis.ch,h.dis.base⟩
  ·rcases ho k b h1 with a1 | ⟨a1,a2⟩ <;> rcases ho k' b h2 with b1 | ⟨b1,b2⟩
   ·exact h.dis.one _ _ _ a1 b1
   ·exfalso
    have e0:=h.dis.one _ _ _ a1 b2
    subst e0
    have h1':=h1.2
    rw [hO0] at h1'
    have h2':=h2.2
    rw [b1,hsz,hON] at h2'
    exact h1'.2 h2'
   ·exfalso
    have e0:=h.dis.one _ _ _ b1 a2
    subst e0
    have h2':=h2.2
    rw [hO0] at h2'
    have h1':=h1.2
    rw [a1,hsz,hON] at h1'
    exact h2'.2 h1'
   ·omega
  ·rcases ho k b h1 with a1 | ⟨_,a2⟩
   ·exact h.dis.high _ _ a1
   ·exact h.dis.high _ _ a2
  ·rcases ho k b h1 with a1 | ⟨_,a2⟩
   ·exact h.dis.low _ _ a1
   ·exact h.dis.low _ _ a2
 ·rcases hsj i hi with ⟨rfl,e⟩ | ⟨e1,e2⟩
  ·rw [e];omega
  ·rw [e2];have:=hr.2 i e1;omega
 ·have hk':=fun x=>hk ((hact k).2 x)
  have h1:¬ Act L n c k:=fun x=>hk' (.inl x)
  have h2:k≠L+c.j:=fun x=>hk' (.inr (by omega))
  have h3:k≠0:=fun x=>h1 (.inl x)
  rw [hOk k h3 h2] at hb
  exact h.ono k h1 b hb
 ·have es:Ssum c'=Ssum c+9:=by
   show sumTo (c.j+1) (upd c.s c.j 9)=_
   simp only [sumTo,qw]
   have e:sumTo c.j (upd c.s c.j 9)=Ssum c:=sumTo_congr fun i hi=>by rw [upd_ne _ _ (by omega)]
   rw [e]
  show wM n M'+Ssum c'+wC n (Vc c') c.C < wM n c.M+Ssum c+wC n (Vc c) c.C
  rw [es,hM,ht.2.2]
  rcases hM5 with ⟨rfl,rfl⟩ | ⟨r',rfl,rfl⟩ <;> simp only [wM,wC] <;> omega
theorem Inv.gocM (h:Inv P Γ L n mv z Anch w0 c gs w t) {a:Goroutine} (hM:c.M=.goc) (h0:gs[0]? = some a) (hs:StM P Γ n mv z Anch c.got .goc (c.O 0) a w):Nx P Γ L n mv z Anch w0 c t (runT P (crowd gs w sl) 0):=by
 obtain ⟨_,g',child,hst,hrun,⟨Hd,g₀,hth,hb⟩,ρ',hnext⟩:=hs
 have hL:=h.geo.1
 have ht:c.j=n∧c.C=.none:=by simpa only [ZJ,hM] using h.tags
 have hr:c.got=[]∧∀i,i < c.j→8≤c.s i:=by simpa only [ZI,hM] using h.rc
 obtain ⟨m1,m2⟩:=h.none_mode ht.2
 have hsz:gs.size=L+n:=by have:=h.size;rw [isN,if_pos ht.2] at this;omega
 have hc0:c.d 0=0:=by rw [h.dm,hM];rfl
 obtain ⟨ρC,hW⟩:=zm (qt:=false) (Stop':=StC P Γ .kd) (O:=c.O (L+n)) (X:=fun w=>CBack P Γ Hd g₀ w) hth (fun w₁ hr=>hb.rely hr) fun g w h4 h5=>⟨Hd,g₀,h4,h5⟩
 let c':Cf:={ c with M:=.rcv n,C:=.kd,d:=upd c.d (L+n) 0,ρ:=upd (upd c.ρ 0 ρ') (L+n) ρC }
 have hCk:c'.C≠.none:=by show CTg.kd≠.none;simp
 have hna:¬ Act L n c (L+n):=by
  rintro (e | ⟨i,hi,e⟩ | ⟨e,_⟩)
  ·omega
  ·omega
  ·exact e ht.2
 have hact:∀k,Act L n c' k↔Act L n c k∨k=gs.size:=fun k=>by
  rw [hsz]
  constructor
  ·rintro (e | ⟨i,hi,e⟩ | ⟨_,e⟩)
   ·exact .inl (.inl e)
   ·exact .inl (.inr (.inl ⟨i,hi,e⟩))
   ·exact .inr e
  ·rintro ((e | ⟨i,hi,e⟩ | ⟨e,_⟩) | e)
   ·exact .inl e
   ·exact .inr (.inl ⟨i,hi,e⟩)
   ·exact absurd ht.2 e
   ·exact .inr (.inr ⟨hCk,e⟩)
 have ho:∀k b,own L n c' k b→own L n c k b:=fun k b ⟨h1,h2⟩=>by
  rcases (hact k).1 h1 with x | x
  ·exact ⟨x,h2⟩
  ·exact absurd h2 (h.ono k (by rw [x,hsz];exact hna) b)
 refine h.spawn (c':=c') h0 hst ?_ (fun k' hk' hk0=>⟨fun e=>absurd e hk0,fun i hi _=>⟨hi,rfl⟩,fun e=>by omega,rfl,upd_ne _ _ (by omega),?_⟩) (.inl rfl)
  (.main rfl ?_) (.close hsz ?_) ⟨ht.1,hCk⟩ ?_ ?_ hc0 rfl (fun i hi hs=>?_) (fun _ _=>?_) (by show ∀r,MTg.rcv n≠.blk r;simp) ⟨_,_,m1,?_⟩ ht.2 (.inr rfl) ?_ hact (fun k b hb=>.inl (ho k b hb)) ?_ (.inr (by rw [sg,if_neg hCk,hsz])) (fun i hi=>?_) (fun k hk b hb=>?_) ?_
 ·rw [hsz,isN,if_neg hCk,show c'.j=c.j from rfl,ht.1]
 ·show upd (upd c.ρ 0 ρ') (L+n) ρC k'=c.ρ k'
  rw [upd_ne _ _ (by omega),upd_ne _ _ hk0]
 ·rw [show c'.ρ 0=ρ' by show upd (upd c.ρ 0 ρ') (L+n) ρC 0=ρ';rw [upd_ne _ _ (by omega),qw],show c'.got=[] from hr.1]
  exact .run (by show ∀r,MTg.rcv n≠.blk r;simp) hnext
 ·rw [hsz,show c'.ρ (L+n)=ρC from qw _ _ _,show c'.d (L+n)=0 from qw _ _ _]
  exact .run (tag:=.kd) (by simp) (by simp) (by simp) hW
 ·show upd c.d (L+n) 0 0=0
  rw [upd_ne _ _ (by omega)];exact hc0
 ·rw [hsz];exact qw _ _ _
 ·have hi':i < c.j:=hi
  show upd c.d (L+n) 0 (L+i)=_
  rw [upd_ne _ _ (by omega)];exact h.dw i hi hs
 ·exact qw _ _ _
 ·rw [hM]
  exact Mode.opnV (c:=c') trivial m2 (fun vs e=>by cases e) rfl
 ·refine ⟨fun i=>⟨fun e=>?_,fun ⟨e1,e2⟩=>?_⟩,?_⟩
  ·rw [show c'.got=[] from hr.1] at e;cases e
  ·have:=hr.2 i (by omega)
   have e2':c.s i≤7:=e2
   omega
  ·have:∀m,m≤n→sumTo m (fun i=>due (c.s i))=m:=by
    intro m
    induction m with
    | zero=>intro _;rfl
    | succ m ih =>
      intro hm
      have h8:=hr.2 m (by omega)
      rw [sumTo,ih (by omega)]
      simp [due,h8]
   exact this n (Nat.le_refl _)
 ·exact ⟨fun k k' b h1 h2=>h.dis.one _ _ _ (ho k b h1) (ho k' b h2),fun k b h1=>h.dis.high _ _ (ho k b h1),fun k b h1=>h.dis.low _ _ (ho k b h1),h.dis.wg,h.dis.ch,h.dis.base⟩
 ·have:=hr.2 i hi
  show 7≤c.s i
  omega
 ·exact h.ono k (fun x=>hk ((hact k).2 (.inl x))) b hb
 ·show wM n (.rcv n)+Ssum c+wC n (Vc c) .kd < wM n c.M+Ssum c+wC n (Vc c) c.C
  rw [hM,ht.2];simp only [wM,wC];omega
end
end Go.Fan
end
section
namespace Go.Fan
open Go Go.Conc Go.ConcN
open Go.ConcR (KK wgBlock WgAt stA smA rd wr DC0 g_of_ofEvents)
section
variable {P:Program} {Γ:Ge} {L n:Nat} {mv:Nat→Value} {z:Value} {Anch:(Nat→Prop)→Goroutine→World→Prop}
variable {w0:World} {c:Cf} {gs:Array Goroutine} {w w':World} {sl:Option (Nat×Nat)} {t:Trace}
theorem qcZ {x y:Goroutine} {cs cs':Array CommCase} {sh sh':CommShape} (h:parked x cs sh=parked y cs' sh'):cs=cs'∧sh=sh'∧∀v,Conc.served x v=Conc.served y v:=by
 unfold parked at h
 simp only [Goroutine.mk.injEq,Option.some.injEq,Prod.mk.injEq,true_and] at h
 obtain ⟨h1,h2,h3,h4,h5⟩:=h
 exact ⟨h4,h5,fun v=>by simp [Conc.served,h1,h2,h3]⟩
theorem Inv.offers_send (h:Inv P Γ L n mv z Anch w0 c gs w t) {k:Nat} {g:Goroutine} (hk:gs[k]? = some g) {r q:Nat} (ho:q∈offersAt g r true) :
 ∃i,i < c.j∧k=L+i∧c.s i=8∧q=0∧∃g0 z',g=parked (core g0) #[scase Γ.Ch (mv i) z'] .send∧qG P false Γ.ty Γ.Wg (WRel P Γ) (Conc.served g0 undef) w:=by
 have hrun:g.status≠.blocked→False:=fun hn=>by rw [offersAt_of_not_blocked hn] at ho;cases ho
 cases h.sit k g hk with
 | main h1 h2 =>
   exfalso
   generalize c.M=M at h2
   cases h2 with
   | run a b=>exact hrun (by rw [b.running fun _ _ _=>StM.running];simp)
   | blk a _ =>
     rcases a with rfl | rfl
     ·rw [offersAt_parked_recv'] at ho;cases ho
     ·exact hrun (by simp)
 | old h1 h2 h3 h4=>exact (hrun (by rcases h4.status with e | e <;> rw [e] <;> simp)).elim
 | @work i h1 h2 h3 =>
   generalize hs:c.s i=s at h3
   generalize c.ρ k=ρ at h3
   cases h3 with
   | run a b e=>exact (hrun (by rw [e.running fun _ _ _=>StW.running];simp)).elim
   | prk a =>
     refine ⟨i,h1,h2,hs,?_,_,_,rfl,a⟩
     rw [offersAt_parked_send] at ho
     split at ho
     ·simpa using ho
     ·cases ho
   | quit a=>exact (hrun (by rcases a.status with e | e <;> rw [e] <;> simp)).elim
 | close h1 h2 =>
   exfalso
   generalize c.C=C at h2
   generalize c.ρ k=ρ at h2
   cases h2 with
   | run a b e f=>exact hrun (by rw [f.running fun _ _ _=>StC.running];simp)
   | blk a b e=>simp [offersAt,b] at ho
   | quit a=>exact hrun (by rcases a.status with e | e <;> rw [e] <;> simp)
theorem Inv.offers_recv (h:Inv P Γ L n mv z Anch w0 c gs w t) {k:Nat} {g:Goroutine} (hk:gs[k]? = some g) {r q:Nat} (ho:q∈offersAt g r false) :
 k=0∧q=0∧∃r',c.M=.blk r'∧∃g0,g=parked (core g0) #[rcase Γ.Ch z] (.recv true)∧∀w₁,Ry Γ (c.O 0) w w₁→Xb P Γ n mv z Anch r' c.got (c.O 0) g0 w₁:=by
 have hrun:g.status≠.blocked→False:=fun hn=>by rw [offersAt_of_not_blocked hn] at ho;cases ho
 cases h.sit k g hk with
 | main h1 h2 =>
   subst h1
   generalize hM:c.M=M at h2
   cases h2 with
   | run a b=>exact (hrun (by rw [b.running fun _ _ _=>StM.running];simp)).elim
   | blk a b =>
     rcases a with rfl | rfl
     ·refine ⟨rfl,?_,_,rfl,_,rfl,b⟩
      rw [offersAt_parked_recv] at ho
      split at ho
      ·simpa using ho
      ·cases ho
     ·exact (hrun (by simp)).elim
 | old h1 h2 h3 h4=>exact (hrun (by rcases h4.status with e | e <;> rw [e] <;> simp)).elim
 | @work i h1 h2 h3 =>
   generalize hs:c.s i=s at h3
   generalize c.ρ k=ρ at h3
   cases h3 with
   | run a b e=>exact (hrun (by rw [e.running fun _ _ _=>StW.running];simp)).elim
   | prk a=>rw [offersAt_parked_send'] at ho;cases ho
   | quit a=>exact (hrun (by rcases a.status with e | e <;> rw [e] <;> simp)).elim
 | close h1 h2 =>
   exfalso
   generalize c.C=C at h2
   generalize c.ρ k=ρ at h2
   cases h2 with
   | run a b e f=>exact hrun (by rw [f.running fun _ _ _=>StC.running];simp)
   | blk a b e=>simp [offersAt,b] at ho
   | quit a=>exact hrun (by rcases a.status with e | e <;> rw [e] <;> simp)
theorem Jm {k j:Nat} {x:Goroutine} (h:(gs.setIfInBounds k ph)[j]? = some x) (r:Nat) (b:Bool) {q:Nat} (hq:q∈offersAt x r b):j≠k∧gs[j]? = some x:=by
 rcases getElem?_stand gs k j x h with ⟨_,rfl⟩ | h
 ·rw [offersAt_ph] at hq;cases hq
 ·exact h
theorem qcb {k r:Nat} {b:Bool} {j q:Nat} (h:(j,q)∈partners (gs.setIfInBounds k ph) r b):j≠k∧∃x,gs[j]? = some x∧q∈offersAt x r b:=by
 obtain ⟨x,h1,h2⟩:=mem_partners.1 h
 have h3:=Jm h1 r b h2
 exact ⟨h3.1,x,h3.2,h2⟩
theorem Inv.park (h:Inv P Γ L n mv z Anch w0 c gs w t) {c':Cf} {k:Nat} {a a':Goroutine} (h0:gs[k]? = some a) (hrun:runT P (crowd gs w sl) k=(.next (crowd (gs.setIfInBounds k a') w sl),#[]))
 (hj:c'.j=c.j) (hC:c'.C=c.C) (hf:c'.f=c.f) (hd:c'.d=c.d) (hO:c'.O=c.O) (hlike:∀k',k'≠k→Like L n c c' k') (hs:Sit P Γ L n mv z Anch c' k a' w) (htags:ZJ n c') (hdm:dM c'.M=dM c.M)
 (hdw:∀i,i < c.j→c'.s i≠1→c.s i≠1∧dW (c'.s i)=dW (c.s i)) (hwg:∀st sm,Mode c st sm→Mode c' st sm) (hrc:ZI n c') (h6:∀i,i < c.j→c'.s i≤6→c.s i≤6) (hwoke:∀r,c'.M=.blk r→c.C≠.quit∧(k=0→a'.status=.blocked)∧(k≠0→c.M=.blk r)) (hlt:(μ n c').1 < (μ n c).1) :
 Nx P Γ L n mv z Anch w0 c t (runT P (crowd gs w sl) k):=by
 have hact:Act L n c'=Act L n c:=xM hj (by rw [hC])
 have hown:own L n c'=own L n c:=by unfold own;rw [hact,hO]
 have hsg:sg L n c'=sg L n c:=Jl (by rw [hC])
 have hklt:=(Array.getElem?_eq_some_iff.1 h0).1
 refine ⟨c',_,w,sl,#[],hrun,.inl hlt,?_⟩
 rw [Array.append_empty]
 obtain ⟨st,sm,m1,m2⟩:=h.wg
 refine ⟨h.geo,by rw [Array.size_setIfInBounds,h.size,hj,JS (c:=c) (c':=c') (by rw [hC])],htags,fun k' x hx=>?_,fun k' hk'=>?_,by rw [hd,hdm];exact h.dm,fun i hi h1=>?_,fun a b=>?_,⟨st,sm,m1,hwg _ _ m2⟩,by rw [hC];exact h.ch,hrc,by rw [hown];exact h.dis,by rw [hown,hact,hsg,Array.size_setIfInBounds];exact h.tr,h.nor,fun i hi h1=>h.rel i (hj▸hi) (h6 i (hj▸hi) h1),by rw [hC];exact h.acq,by rw [hC];exact h.cls,h.fr,fun k' hk'=>by rw [hact] at hk';rw [hO];exact h.ono k' hk',fun r hM=>?_⟩
 ·by_cases e:k'=k
  ·subst e
   rw [Array.getElem?_setIfInBounds_self_of_lt hklt] at hx
   cases hx;exact hs
  ·rw [Array.getElem?_setIfInBounds_ne (Ne.symm e)] at hx
   exact (h.sit k' x hx).like (hlike k' e) (.inl hf)
 ·rw [Array.size_setIfInBounds] at hk'
  rw [hd];exact h.deaf k' hk'
 ·obtain ⟨h2,h3⟩:=hdw i (hj▸hi) h1
  rw [hd,h3];exact h.dw i (hj▸hi) h2
 ·rw [hC] at a b
  rw [hd,hC];exact h.dc a b
 ·obtain ⟨h1,h2,h3⟩:=hwoke r hM
  rw [hC]
  by_cases e:k=0
  ·subst e
   exact ⟨a',Array.getElem?_setIfInBounds_self_of_lt hklt,fun x=>absurd x h1,fun _=>h2 rfl⟩
  ·obtain ⟨b,h4,h5⟩:=h.woke r (h3 e)
   exact ⟨b,by rw [Array.getElem?_setIfInBounds_ne e];exact h4,h5⟩
theorem Inv.meet (h:Inv P Γ L n mv z Anch w0 c gs w t) {i r:Nat} {a' g':Goroutine} {ops:Array MemOp} {d s q:Nat} {k:Nat} {tm:Bool} {ρ' ρ'':Rank} (hi:i < c.j) (hN:c.C≠.none) (hQ:c.C≠.quit)
 (hrun:runT P (crowd gs w sl) k=(.next (crowd ((gs.setIfInBounds (L+i) g').setIfInBounds 0 a') ((w.at d).setChan Γ.Ch 0 #[] false s q tm) sl),ops))
 (hM:c.M=.rcv (r+1)∨c.M=.blk (r+1)) (hS:c.s i=9∨c.s i=8) (hd:c.d (L+i)=0)
 (hops:∀op∈ops,(op.g=0∨op.g=L+i)∧op.act.touch? = none∧op.act.low w.heap.size∧∀m,op.act≠.mark m)
 (hs0:∀w',Ry Γ (c.O 0) w w'→Walk P true Γ false (StM P Γ n mv z Anch (i :: c.got) (.rcv r)) ρ' (c.O 0) a' w')
 (hsi:∀w',Ry Γ (c.O (L+i)) w w'→Walk P false Γ (decide (7≤6)) (StW P Γ (mv i) 7) ρ'' (c.O (L+i)) g' w') :
 Nx P Γ L n mv z Anch w0 c t (runT P (crowd gs w sl) k):=by
 have hL:=h.geo.1
 have hgeo:=h.geo
 have hjn:=h.jN hN
 have hsz:=h.size
 rw [isN,if_neg hN] at hsz
 let w':=(w.at d).setChan Γ.Ch 0 #[] false s q tm
 have hb:ButC Γ w w':=qdL w _ d
 have hCl:Γ.Ch < w.heap.size:=by have:=h.fr.size;omega
 have hne:=hgeo.2.2.2.1
 have hry:∀k',Ry Γ (c.O k') w w':=fun k'=>hb.ry (h.nOC k') hne
 have hch':w'.heap[Γ.Ch]? = some (.chan 0 #[] false s q tm):=by
  show (w.heap.setIfInBounds Γ.Ch _)[Γ.Ch]? = _
  simp [hCl]
 let c':Cf:={ c with M:=.rcv r,got:=i :: c.got,s:=upd c.s i 7,ρ:=upd (upd c.ρ 0 ρ') (L+i) ρ'' }
 have hact:Act L n c'=Act L n c:=xM rfl Iff.rfl
 have hown:own L n c'=own L n c:=by unfold own;rw [hact]
 have hsg:sg L n c'=sg L n c:=Jl Iff.rfl
 have hal:∀st sm,Mode c st sm→Mode c' st sm:=fun st sm hm=>by
  have:=(hm.counted (k:=L+i) (d:=c.d (L+i)) (f':=c.f) (ρ:=.zero) hi (by omega) (show 5≤7 by omega)).reM (M':=.rcv r) (by show pend _=pend c.M;rcases hM with e | e <;> rw [e] <;> rfl)
  exact this.alike ⟨rfl,rfl,rfl,fun _ _=>rfl⟩ (.inl rfl)
 have hsi':∀i',i'≠i→c'.s i'=c.s i':=fun i' e=>upd_ne _ _ e
 have hsii:c'.s i=7:=qw _ _ _
 have htr:TR Γ (own L n c) (Act L n c) (sg L n c) w.heap.size gs.size (t ++ ops):=by
  have key:∀(l:List MemOp) (t:Trace),TR Γ (own L n c) (Act L n c) (sg L n c) w.heap.size gs.size t→(∀op∈l,(op.g=0∨op.g=L+i)∧op.act.touch? = none∧op.act.low w.heap.size∧∀m,op.act≠.mark m)→TR Γ (own L n c) (Act L n c) (sg L n c) w.heap.size gs.size (t ++ l.toArray):=by
   intro l
   induction l with
   | nil=>intro t ht _;simpa using ht
   | cons x l ih =>
     intro t ht hl
     have e:t ++ (x :: l).toArray=(t ++ #[x]) ++ l.toArray:=by apply Array.ext';simp
     rw [e]
     have hx:=hl x (by simp)
     exact ih _ (ht.mute (k:=x.g) (by rcases hx.1 with y | y <;> omega) (Nat.le_refl _) (fun _ _ y=>.inl y) fun op hop=>(by simp at hop;rw [hop];exact ⟨rfl,hx.2.2.1,hx.2.1⟩)) fun op hop=>hl op (by simp [hop])
  exact key ops.toList t h.tr fun op hop=>hops op (by simpa using hop)
 have hdeaf:∀k',Deaf (t ++ ops) k'=Deaf t k':=fun k'=>Go.ConcN.Deaf_still t k' _ fun op hop=>⟨(hops op hop).2.2.2 _,(hops op hop).2.2.2 _⟩
 have hcnt:∀x,t.size≤x→¬ (t ++ ops).counts x:=fun x hx hc=>by
  obtain ⟨y,hy,_⟩:=hc
  obtain ⟨op,hop,hox⟩:=touch_of hy
  rcases getElem?_append_cases hop with ⟨hlt,_⟩ | ⟨_,hou⟩
  ·omega
  ·rw [(hops op hou).2.1] at hox;cases hox
 have hrel:∀i' r',RelBy (stA Γ.Wg) t (L+i') r'→RelBy (stA Γ.Wg) (t ++ ops) (L+i') r':=fun i' r' hr=>hr.app fun x hx _=>hcnt x hx
 have ht:c.j=n∧c.C≠.none:=⟨hjn,hN⟩
 obtain ⟨hg1,hg2⟩:(∀i',i'∈c.got↔i' < n∧c.s i'≤7)∧sumTo n (fun i=>due (c.s i))=r+1:=by
  have:=h.rc
  unfold ZI at this
  rcases hM with e | e <;> rw [e] at this
  ·exact this
  ·exact ⟨this.1,this.2.1⟩
 have h0lt:0 < gs.size:=by omega
 have hilt:L+i < gs.size:=by omega
 refine ⟨c',_,w',sl,ops,hrun,.inl ?_,?_⟩
 ·have es:=qdD (k:=L+i) (s:=7) (d:=0) (ρ:=.zero) hi
  have ev:=Vc_w (k:=L+i) (s:=7) (d:=0) (ρ:=.zero) hi
  have e1:cnt (c.s i)=1:=by rcases hS with e | e <;> rw [e] <;> rfl
  have e2:cnt 7=1:=rfl
  have e3:Vc c'=Vc (c.w (L+i) i 7 0 .zero):=rfl
  have e4:Ssum c'=Ssum (c.w (L+i) i 7 0 .zero):=rfl
  show wM n (.rcv r)+Ssum c'+wC n (Vc c') c.C < wM n c.M+Ssum c+wC n (Vc c) c.C
  rw [show Vc c'=Vc c by omega]
  rcases hM with e | e <;> rw [e] <;> simp only [wM] <;> omega
 obtain ⟨st,sm,m1,m2⟩:=h.wg
 refine ⟨hgeo,by rw [Array.size_setIfInBounds,Array.size_setIfInBounds,hsz];rw [isN,if_neg hN],ht,fun k' x hx=>?_,fun k' hk'=>?_,?_,fun i' hi' h1=>?_,h.dc,⟨st,sm,m1.of_block (hb.blk _ (Ne.symm hne)),hal _ _ m2⟩,⟨false,s,q,tm,hch',⟨fun e=>(by cases e),fun e=>absurd e hQ⟩⟩,⟨fun i'=>?_,?_⟩,?_,?_,?_,fun i' hi' h1=>?_,fun e=>?_,fun e=>absurd e hQ,?_,?_,fun r' e=>(by cases e)⟩
 ·by_cases e0:k'=0
  ·subst e0
   rw [Array.getElem?_setIfInBounds_self_of_lt (by simpa using h0lt)] at hx
   cases hx
   refine .main rfl ?_
   rw [show c'.ρ 0=ρ' by show upd (upd c.ρ 0 ρ') (L+i) ρ'' 0=ρ';rw [upd_ne _ _ (by omega),qw]]
   exact .run (by show ∀r',MTg.rcv r≠.blk r';simp) (hs0 _ (hry 0))
  ·rw [Array.getElem?_setIfInBounds_ne (Ne.symm e0)] at hx
   by_cases ei:k'=L+i
   ·subst ei
    rw [Array.getElem?_setIfInBounds_self_of_lt hilt] at hx
    cases hx
    refine .work (i:=i) hi rfl ?_
    rw [show c'.ρ (L+i)=ρ'' from qw _ _ _,hsii]
    exact .run (by decide) (by decide) (hsi _ (hry _))
   ·rw [Array.getElem?_setIfInBounds_ne (Ne.symm ei)] at hx
    refine ((h.sit k' x hx).rely (hry k')).like ⟨fun e=>absurd e e0,fun i' hi' e=>⟨hi',hsi' i' (by omega)⟩,fun _=>rfl,rfl,rfl,?_⟩ (.inl rfl)
    show upd (upd c.ρ 0 ρ') (L+i) ρ'' k'=_
    rw [upd_ne _ _ ei,upd_ne _ _ e0]
 ·rw [Array.size_setIfInBounds,Array.size_setIfInBounds] at hk'
  rw [hdeaf];exact h.deaf k' hk'
 ·show c.d 0=0
  rw [h.dm];rcases hM with e | e <;> rw [e] <;> rfl
 ·by_cases e:i'=i
  ·subst e;rw [hsii];exact hd
  ·rw [hsi' i' e] at h1 ⊢;exact h.dw i' hi' h1
 ·show i'∈i :: c.got↔i' < n∧c'.s i'≤7
  rw [List.mem_cons,hg1]
  by_cases e:i'=i
  ·subst e;rw [hsii];exact ⟨fun _=>⟨by omega,by omega⟩,fun _=>.inl rfl⟩
  ·rw [hsi' i' e];exact ⟨fun y=>y.resolve_left e,.inr⟩
 ·have e1:sumTo n (fun a=>due (upd c.s i 7 a))+due (c.s i)=sumTo n (fun a=>due (c.s a))+due 7:=sumTo_upd c.s 7 due (by omega)
  have e2:due (c.s i)=1:=by rcases hS with e | e <;> rw [e] <;> rfl
  have e3:due 7=0:=rfl
  show sumTo n (fun a=>due (upd c.s i 7 a))=r
  omega
 ·rw [hown,hb.size];exact h.dis
 ·rw [hown,hact,hsg,hb.size,Array.size_setIfInBounds,Array.size_setIfInBounds];exact htr
 ·exact h.nor.app fun op hop=>(hops op hop).2.2.2 _
 ·by_cases e:i'=i
  ·subst e;rw [hsii] at h1;omega
  ·rw [hsi' i' e] at h1
   obtain ⟨r',hr⟩:=h.rel i' hi' h1
   exact ⟨r',hrel _ _ hr⟩
 ·obtain ⟨q,hq⟩:=h.acq e
  exact ⟨q,hq.app fun i' r' _ hr=>hrel _ _ hr⟩
 ·exact ⟨fun b h1 h2 h3=>(hb.blk b h3).trans (h.fr.low b h1 h2 h3),hb.size▸h.fr.size,hb.tape.trans h.fr.tape,hb.os.trans h.fr.os,hb.output.trans h.fr.output⟩
 ·intro k' hk' b hb
  rw [hact] at hk'
  exact h.ono k' hk' b hb
end
end Go.Fan
end
section
namespace Go.Fan
open Go Go.Conc Go.ConcN
open Go.ConcR (KK wgBlock WgAt stA smA rd wr DC0 g_of_ofEvents)
section
variable {P:Program} {Γ:Ge} {L n:Nat} {mv:Nat→Value} {z:Value} {Anch:(Nat→Prop)→Goroutine→World→Prop}
variable {w0:World} {c:Cf} {gs:Array Goroutine} {w w':World} {sl:Option (Nat×Nat)} {t:Trace}
structure Fin (P:Program) (Γ:Ge) (L n:Nat) (Anch:(Nat→Prop)→Goroutine→World→Prop) (w0:World) (gs:Array Goroutine) (w:World) (t:Trace):Prop where
 main:∃a O,gs[0]? = some a∧Anch O a w
 size:gs.size=L+n+1
 old:∃q,Leavers P t gs q
 past:Past Γ.ShunL w.heap.size t
 fr:Fr Γ w0 w
 nums:∀(i:Nat) (op:MemOp),t[i]? = some op→op.g < gs.size
def Nf (P:Program) (Γ:Ge) (L n:Nat) (Anch:(Nat→Prop)→Goroutine→World→Prop) (w0:World) (t:Trace) (r:Stepped×Array MemOp):Prop :=
 ∃gs' w' sl' ops,r=(.next (crowd gs' w' sl'),ops)∧Fin P Γ L n Anch w0 gs' w' (t ++ ops)
theorem set_comm (gs:Array Goroutine) {i j:Nat} (x y:Goroutine) (h:i≠j):(gs.setIfInBounds i x).setIfInBounds j y=(gs.setIfInBounds j y).setIfInBounds i x:=by
 apply Array.ext_getElem?
 intro k
 by_cases hi:i=k
 ·subst hi
  rw [Array.getElem?_setIfInBounds_ne (Ne.symm h)]
  by_cases hl:i < gs.size
  ·rw [Array.getElem?_setIfInBounds_self_of_lt hl,Array.getElem?_setIfInBounds_self_of_lt (by simpa using hl)]
  ·rw [Array.getElem?_eq_none (by simpa using hl),Array.getElem?_eq_none (by simpa using hl)]
 ·rw [Array.getElem?_setIfInBounds_ne hi]
  by_cases hj:j=k
  ·subst hj
   by_cases hl:j < gs.size
   ·rw [Array.getElem?_setIfInBounds_self_of_lt (by simpa using hl),Array.getElem?_setIfInBounds_self_of_lt hl]
   ·rw [Array.getElem?_eq_none (by simpa using hl),Array.getElem?_eq_none (by simpa using hl)]
  ·rw [Array.getElem?_setIfInBounds_ne hj,Array.getElem?_setIfInBounds_ne hj,Array.getElem?_setIfInBounds_ne hi]
theorem yK (g:Nat) (fn:FuncId) (pos:String):MemOp.ofEvents g fn pos #[]=#[]:=by rw [ofEvents_eq];simp
theorem Ql:∀n:Nat,sumTo n (fun _=>0)=0
 | 0=>rfl
 | n+1=>by rw [sumTo,Ql n]
theorem Inv.w9 (h:Inv P Γ L n mv z Anch w0 c gs w t) {i:Nat} (hi:i < c.j) (hS:c.s i=9) {a:Goroutine} (h0:gs[L+i]? = some a) (hs:qcu P Γ (mv i) (c.O (L+i)) a w):Nx P Γ L n mv z Anch w0 c t (runT P (crowd gs w sl) (L+i)):=by
 obtain ⟨hrun,z',hst,hth⟩:=hs
 have hL:=h.geo.1
 have hjn:=h.jn
 have hk:(L+i == 0)=false:=by simp;omega
 have hlt:=(Array.getElem?_eq_some_iff.1 h0).1
 have hd:c.d (L+i)=0:=by rw [h.dw i hi (by omega),hS];rfl
 have hQ:c.C≠.quit:=fun e=>by have:=h.allQuit (.inr e) i hi;omega
 obtain ⟨s,q,tm,hch⟩:Open Γ w:=by
  rcases h.opens with x | x
  ·exact x.1
  ·exact absurd x.1 hQ
 have hst':stepG P (L+i == 0) a w=.comm (core a) #[scase Γ.Ch (mv i) z'] true .send w #[]:=by rw [hk];exact hst
 by_cases hp:partners (gs.setIfInBounds (L+i) ph) Γ.Ch false=[]
 ·
  have hr:=crowd_waits (sl:=sl) h0 hst' (fun cc hcc=>by
   simp at hcc;subst hcc
   exact ways_send_none hch (Nat.zero_le _) hp)
  rw [yK] at hr
  have hnb:∀r,c.M≠.blk r:=fun r hM=>by
   obtain ⟨b,h1,_,h3⟩:=h.woke r hM
   have hb:=h3 hQ
   have hs0:=h.sit0 h1
   rw [hM] at hs0
   generalize c.ρ 0=ρ at hs0
   generalize c.O 0=O at hs0
   cases hs0 with
   | run x _=>exact absurd rfl (x _)
   | @blk _ _ g0 _ _ x _ =>
     rcases x with rfl | rfl
     ·have:(0,0)∈partners (gs.setIfInBounds (L+i) ph) Γ.Ch false:=mem_partners.2 ⟨_,by rw [Array.getElem?_setIfInBounds_ne (by omega)];exact h1,by rw [offersAt_parked_recv];simp⟩
      rw [hp] at this;cases this
     ·cases hb
  have e8:∀i',upd c.s i 8 i'≠c.s i'→i'=i:=fun i' hne=>Classical.byContradiction fun e=>hne (upd_ne _ _ e)
  refine h.park (c':={ c with s:=upd c.s i 8 }) h0 hr rfl rfl rfl rfl rfl (fun k' hk'=>⟨fun _=>⟨rfl,rfl⟩,fun i' hi' e=>⟨hi',upd_ne _ _ (by omega)⟩,fun _=>rfl,rfl,rfl,rfl⟩) (.work (i:=i) hi rfl ?_) h.tags rfl (fun i' hi' hn=>?_) (fun st sm hm=>?_) ?_ (fun i' hi' h6=>?_) (fun r hM=>absurd hM (hnb r)) ?_
  ·show WSit P Γ (mv i) (c.d (L+i)) (upd c.s i 8 i) _ _ _ _
   rw [qw];exact .prk hth
  ·by_cases e:i'=i
   ·subst e;exact ⟨by omega,by show dW (upd c.s i' 8 i')=_;rw [qw,hS];rfl⟩
   ·have hn':upd c.s i 8 i'≠1:=hn
    rw [upd_ne _ _ e] at hn'
    exact ⟨hn',by show dW (upd c.s i 8 i')=_;rw [upd_ne _ _ e]⟩
  ·have:=hm.counted (k:=L+i) (d:=c.d (L+i)) (f':=c.f) (ρ:=.zero) hi (by omega) (show 5≤8 by omega)
   exact this.alike ⟨rfl,rfl,rfl,fun _ _=>rfl⟩ (.inl rfl)
  ·have hrc:=h.rc
   have e1:∀i',(upd c.s i 8 i'≤7↔c.s i'≤7):=fun i'=>by
    by_cases e:i'=i
    ·subst e;rw [qw];omega
    ·rw [upd_ne _ _ e]
   have e2:∀i',due (upd c.s i 8 i')=due (c.s i'):=fun i'=>by
    have:=e1 i'
    unfold due
    split <;> split <;> omega
   have e3:sumTo n (fun i'=>due (upd c.s i 8 i'))=sumTo n (fun i'=>due (c.s i')):=sumTo_congr fun i' _=>e2 i'
   unfold ZI at hrc ⊢
   cases e:c.M <;> simp only [e,e1,e3] at hrc ⊢
   all_goals first
    | exact absurd e (hnb _)
    | exact hrc
    | (refine ⟨hrc.1,fun i' hi'=>?_⟩
       have:=hrc.2 i' hi'
       have:=e1 i'
       omega)
  ·have h6':upd c.s i 8 i'≤6:=h6
   by_cases e:i'=i
   ·subst e;rw [qw] at h6';omega
   ·rw [upd_ne _ _ e] at h6';exact h6'
  ·have es:=qdD (k:=L+i) (s:=8) (d:=0) (ρ:=.zero) hi
   have ev:=Vc_w (k:=L+i) (s:=8) (d:=0) (ρ:=.zero) hi
   have e1:cnt (c.s i)=1:=by rw [hS];rfl
   have e2:cnt 8=1:=rfl
   have e3:Vc { c with s:=upd c.s i 8 }=Vc (c.w (L+i) i 8 0 .zero):=rfl
   have e4:Ssum { c with s:=upd c.s i 8 }=Ssum (c.w (L+i) i 8 0 .zero):=rfl
   show wM n c.M+Ssum { c with s:=upd c.s i 8 }+wC n (Vc { c with s:=upd c.s i 8 }) c.C < wM n c.M+Ssum c+wC n (Vc c) c.C
   rw [show Vc { c with s:=upd c.s i 8 }=Vc c by omega]
   omega
 ·
  obtain ⟨⟨j,q0⟩,hmem⟩:=List.exists_mem_of_ne_nil _ hp
  obtain ⟨_,x,hx,hq⟩:=qcb hmem
  obtain ⟨rfl,rfl,r,hM,g0,rfl,hnext⟩:=h.offers_recv hx hq
  have hone:partners (gs.setIfInBounds (L+i) ph) Γ.Ch false=[(0,0)]:=by
   rw [partners_one (j:=0) (g:=parked (core g0) #[rcase Γ.Ch z] (.recv true)) (by rw [Array.getElem?_setIfInBounds_ne (by omega)];exact hx) fun k y hk0 hy=>?_,offersAt_parked_recv]
   ·simp
   ·refine List.eq_nil_iff_forall_not_mem.2 fun m hm=>?_
    exact hk0 (h.offers_recv (Jm hy _ _ hm).2 hm).1
  have hr:=crowd_send_meets (sl:=sl) h0 hst' hch (by omega) hx hone
  rw [finishComm_recv,finishComm_send,set_comm _ _ _ (show 0≠L+i by omega),yK] at hr
  have hN:c.C≠.none:=by
   have:=h.tags
   unfold ZJ at this
   rw [hM] at this
   exact this.2
  have hjN:=h.jN hN
  obtain ⟨hg1,hg2,_⟩:(∀i',i'∈c.got↔i' < n∧c.s i'≤7)∧sumTo n (fun i=>due (c.s i))=r∧_:=by
   have:=h.rc
   unfold ZI at this
   rw [hM] at this
   exact this
  obtain ⟨r',rfl⟩:∃r',r=r'+1:=by
   have:=le_sumTo (f:=fun i=>due (c.s i)) (show i < n by omega)
   have e:due (c.s i)=1:=by rw [hS];rfl
   have e':due (c.s i)≤r:=hg2▸this
   exact ⟨r - 1,by omega⟩
  obtain ⟨_,_,hnx⟩:=hnext w (.refl w)
  obtain ⟨ρ',hw⟩:=hnx i (by omega) (fun x=>by have:=(hg1 i).1 x;omega)
  obtain ⟨ρ'',hw2⟩:=zm (qt:=decide (7≤6)) (Stop':=StW P Γ (mv i) 7) (O:=c.O (L+i)) (X:=fun _=>True) hth (fun _ _=>trivial) fun g w h1 _=>h1
  refine h.meet (d:=w.drawn) (ρ':=ρ') (ρ'':=ρ'') hi hN hQ hr (.inr hM) (.inl hS) hd (fun op hop=>?_) (fun w' hr=>hw.rely hr) (fun w' hr=>hw2.rely hr)
  have hCl:Γ.Ch < w.heap.size:=by have:=h.fr.size;have:=h.geo.2.2.1;omega
  simp at hop
  rcases hop with rfl | rfl | rfl | rfl
  ·exact ⟨.inr rfl,rfl,hCl,by simp⟩
  ·exact ⟨.inl rfl,rfl,hCl,by simp⟩
  ·exact ⟨.inr rfl,rfl,hCl,by simp⟩
  ·exact ⟨.inl rfl,rfl,hCl,by simp⟩
theorem Xb.at {r:Nat} {got:List Nat} {O:Nat→Prop} {g:Goroutine} (h:Xb P Γ n mv z Anch r got O g w):g.status=.running∧stepG P true g w=.comm (core g) #[rcase Γ.Ch z] true (.recv true) w #[]:=by
 cases r with
 | zero=>exact ⟨h.1,h.2.1⟩
 | succ r=>exact ⟨h.1,h.2.1⟩
theorem Inv.jfin (h:Inv P Γ L n mv z Anch w0 c gs w t) (hC:c.C=.quit):c.j=n:=h.jN (by rw [hC];simp)
theorem Inv.final (h:Inv P Γ L n mv z Anch w0 c gs w t) {x a:Goroutine} (hC:c.C=.quit) (h0:gs[0]? = some x) (hst:stepG P true x w=.comm (core a) #[rcase Γ.Ch z] true (.recv true) w #[]) (hA:Anch (c.O 0) (Conc.served a (recvd true z false)) w) :
 Nf P Γ L n Anch w0 t (runT P (crowd gs w sl) 0):=by
 have hL:=h.geo.1
 have hjn:=h.jfin hC
 have hq:=h.allQuit (.inr hC)
 have hlt:=(Array.getElem?_eq_some_iff.1 h0).1
 obtain ⟨cl,s,r,tm,hch,hcq⟩:=h.ch
 obtain rfl:=hcq.2 hC
 have hp:partners (gs.setIfInBounds 0 ph) Γ.Ch true=[]:=partners_nil fun j g hg=>by
  refine List.eq_nil_iff_forall_not_mem.2 fun m hm=>?_
  obtain ⟨i,hi,_,h8,_⟩:=h.offers_send (Jm hg _ _ hm).2 hm
  rw [hq i hi] at h8;cases h8
 have hr:=crowd_recv_closed (sl:=sl) h0 (show stepG P (0 == 0) x w=_ from hst) hch hp
 rw [finishComm_recv,yK] at hr
 have qs:∀k,∃q,∀g,0 < k→gs[k]? = some g→QuitsD P q (c.d k) g:=fun k=>by
  cases hg:gs[k]? with
  | none=>exact ⟨0,fun g _ e=>by cases e⟩
  | some g =>
    have hs:=h.sit k g hg
    cases hs with
    | main h1 _=>exact ⟨0,fun _ e _=>by omega⟩
    | old h1 h2 h3 h4=>exact ⟨_,fun g' _ e=>by cases e;exact h4⟩
    | @work i h1 h2 h3 =>
      rw [hq i h1] at h3
      generalize c.ρ k=ρ at h3
      cases h3 with
      | run _ b _=>exact absurd rfl b
      | quit h4=>exact ⟨_,fun g' _ e=>by cases e;exact h4⟩
    | close h1 h2 =>
      rw [hC] at h2
      generalize c.ρ k=ρ at h2
      cases h2 with
      | run _ b _ _=>exact absurd rfl b
      | quit h4=>exact ⟨_,fun g' _ e=>by cases e;exact h4⟩
 refine ⟨_,_,_,_,hr,⟨⟨_,c.O 0,by rw [Array.getElem?_setIfInBounds_self_of_lt hlt];rfl,hA⟩,?_,⟨fun k=>(qs k).choose,?_,?_⟩,?_,h.fr,fun i op hop=>?_⟩⟩
 ·have:=h.size
  rw [isN,if_neg (by rw [hC];simp)] at this
  rw [Array.size_setIfInBounds];omega
 ·intro k g hk hg
  rw [Array.getElem?_setIfInBounds_ne (by omega)] at hg
  have hkl:=(Array.getElem?_eq_some_iff.1 hg).1
  rw [Deaf_other t (g':=0) (by omega) _ (fun op hop=>by simp at hop;rw [hop]),h.deaf k hkl]
  exact (qs k).choose_spec g hk hg
 ·intro k hk
  rw [Array.size_setIfInBounds] at hk
  rw [Deaf_other t (g':=0) (by omega) _ (fun op hop=>by simp at hop;rw [hop])]
  exact Deaf_absent fun i op hi e=>by have:=h.tr.gs i op hi;omega
 ·obtain ⟨q,p,⟨q1,q2,q3,q4⟩,h2,h3,h4,h5,h6⟩:=h.cls hC
  have hCl:Γ.Ch < w.heap.size:=by have:=h.fr.size;have:=h.geo.2.2.1;omega
  have hd0:Deaf t 0=0:=by
   rw [h.deaf 0 hlt,h.dm]
   have:=h.tags
   unfold ZJ at this
   cases e:c.M <;> simp only [e] at this <;> first | rfl | (exfalso;have:=this.2.2;rw [hC] at this;cases this)
  have:=h.tr.done (y:={ g:=0,fn:=(core a).frame.fn,pos:=(core a).frame.place,act:=.recvClosed Γ.Ch }) h.nor hd0 q1 q2 q3 h3 h4 h5 h2 h6 (fun k hk=>?_) hCl ⟨rfl,rfl⟩
  ·simpa using this
  ·rcases hk with e | ⟨i,hi,e⟩ | ⟨_,e⟩
   ·exact .inl e
   ·exact .inr (.inr (e▸q4 i (by omega)))
   ·exact .inr (.inl e)
 ·rw [Array.size_setIfInBounds]
  rcases getElem?_append_cases hop with ⟨_,h1⟩ | ⟨_,h1⟩
  ·exact h.tr.gs i op h1
  ·simp at h1
   rw [h1];exact hlt
theorem Inv.rcvM (h:Inv P Γ L n mv z Anch w0 c gs w t) {r:Nat} {a:Goroutine} (hM:c.M=.rcv r) (h0:gs[0]? = some a) (hs:∀w₁,Ry Γ (c.O 0) w w₁→Xb P Γ n mv z Anch r c.got (c.O 0) a w₁) :
 Nx P Γ L n mv z Anch w0 c t (runT P (crowd gs w sl) 0)∨Nf P Γ L n Anch w0 t (runT P (crowd gs w sl) 0):=by
 have hL:=h.geo.1
 obtain ⟨hrun,hst⟩:=(hs w (.refl w)).at
 have hst':stepG P (0 == 0) a w=.comm (core a) #[rcase Γ.Ch z] true (.recv true) w #[]:=hst
 have hN:c.C≠.none:=by
  have:=h.tags
  unfold ZJ at this
  rw [hM] at this
  exact this.2
 have hjN:=h.jN hN
 obtain ⟨hg1,hg2⟩:(∀i',i'∈c.got↔i' < n∧c.s i'≤7)∧sumTo n (fun i=>due (c.s i))=r:=by
  have:=h.rc
  unfold ZI at this
  rw [hM] at this
  exact this
 have hdue:∀i,i < n→8≤c.s i→1≤r:=fun i hi h8=>by
  have:=le_sumTo (f:=fun i=>due (c.s i)) hi
  have e:due (c.s i)=1:=by simp [due,h8]
  have e':due (c.s i)≤r:=hg2▸this
  omega
 obtain ⟨cl,s,q,tm,hch,hcq⟩:=h.ch
 by_cases hp:partners (gs.setIfInBounds 0 ph) Γ.Ch true=[]
 ·cases cl with
  | true =>
    have hC:=hcq.1 rfl
    have hq:=h.allQuit (.inr hC)
    have hz:r=0:=by
     rw [← hg2]
     have:sumTo n (fun i=>due (c.s i))=sumTo n (fun _=>0):=sumTo_congr fun i hi=>by rw [hq i (by omega)];rfl
     rw [this];exact Ql n
    subst hz
    exact .inr (h.final hC h0 hst (hs w (.refl w)).2.2)
  | false =>
    have hQ:c.C≠.quit:=fun e=>by cases hcq.2 e
    have hr:=crowd_waits (sl:=sl) h0 hst' (fun cc hcc=>by
     simp at hcc;subst hcc
     exact ways_recv_none hch hp)
    rw [yK] at hr
    refine .inl (h.park (c':={ c with M:=.blk r }) h0 hr rfl rfl rfl rfl rfl (fun k' hk'=>⟨fun e=>absurd e hk',fun i' hi' e=>⟨hi',rfl⟩,fun _=>rfl,rfl,rfl,rfl⟩) (.main rfl (.blk (.inl rfl) hs)) ⟨hjN,hN⟩ (by rw [hM];rfl) (fun _ _ h1=>⟨h1,rfl⟩)
     (fun st sm hm=>hm.reM (by rw [hM];rfl)) ⟨hg1,hg2,fun i hi h8=>?_⟩ (fun _ _ x=>x) (fun r' e=>⟨hQ,fun _=>rfl,fun x=>absurd rfl x⟩) ?_)
    ·obtain ⟨b,hb⟩:∃b,gs[L+i]? = some b:=by
      have:=h.size
      rw [isN,if_neg hN] at this
      exact ⟨gs[L+i]'(by omega),by simp⟩
     have hw:=h.sitW (by omega) hb
     have h8':c.s i=8:=h8
     rw [h8'] at hw
     generalize c.ρ (L+i)=ρ at hw
     generalize c.O (L+i)=O at hw
     cases hw with
     | run x _ _=>exact absurd rfl x
     | prk x =>
       have:(L+i,0)∈partners (gs.setIfInBounds 0 ph) Γ.Ch true:=mem_partners.2 ⟨_,by rw [Array.getElem?_setIfInBounds_ne (by omega)];exact hb,by rw [offersAt_parked_send];simp⟩
       rw [hp] at this;cases this
    ·show wM n (.blk r)+Ssum c+wC n (Vc c) c.C < wM n c.M+Ssum c+wC n (Vc c) c.C
     rw [hM];simp only [wM];omega
 ·
  obtain ⟨j,gj,vj,zj,shj,d,hj0,hj,hr⟩:=crowd_recv_meets_some (sl:=sl) h0 hst' hch hp (fun j k hm=>by
   obtain ⟨h1,x,h2,h3⟩:=qcb hm
   obtain ⟨i,_,rfl,_,h4,g0,z',h5,_⟩:=h.offers_send h2 h3
   exact ⟨h4,h1,core g0,mv i,z',.send,h5▸h2⟩)
  obtain ⟨i,hi,rfl,h8,_,g0,z',h5,hth⟩:=h.offers_send (q:=0) (r:=Γ.Ch) hj (by rw [offersAt_parked_send];simp)
  obtain ⟨e1,esh,e2⟩:=qcZ h5
  subst esh
  have e1':vj=mv i:=by
   have:=congrArg (fun x:Array CommCase=>(x[0]?).bind (·.send)) e1
   simpa [scase] using this
  subst e1'
  have hQ:c.C≠.quit:=fun e=>by have:=h.allQuit (.inr e) i hi;omega
  have hcl:cl=false:=by
   cases cl with
   | false=>rfl
   | true=>exact absurd (hcq.1 rfl) hQ
  subst hcl
  rw [finishComm_recv,finishComm_send,yK] at hr
  obtain ⟨r',rfl⟩:∃r',r=r'+1:=⟨r - 1,by have:=hdue i (by omega) (by omega);omega⟩
  obtain ⟨_,_,hnx⟩:=hs w (.refl w)
  obtain ⟨ρ',hw⟩:=hnx i (by omega) (fun x=>by have:=(hg1 i).1 x;omega)
  have hd:c.d (L+i)=0:=by rw [h.dw i hi (by omega),h8];rfl
  obtain ⟨ρ'',hw2⟩:=zm (qt:=decide (7≤6)) (Stop':=StW P Γ (mv i) 7) (O:=c.O (L+i)) (X:=fun _=>True) hth (fun _ _=>trivial) fun g w h1 _=>h1
  have e3:=e2 undef
  rw [e3] at hr
  refine .inl (h.meet (d:=d) (ρ':=ρ') (ρ'':=ρ'') hi hN hQ hr (.inl hM) (.inr h8) hd (fun op hop=>?_) (fun w' hr=>hw.rely hr) (fun w' hr=>hw2.rely hr))
  have hCl:Γ.Ch < w.heap.size:=by have:=h.fr.size;have:=h.geo.2.2.1;omega
  simp at hop
  rcases hop with rfl | rfl | rfl | rfl
  ·exact ⟨.inr rfl,rfl,hCl,by simp⟩
  ·exact ⟨.inl rfl,rfl,hCl,by simp⟩
  ·exact ⟨.inr rfl,rfl,hCl,by simp⟩
  ·exact ⟨.inl rfl,rfl,hCl,by simp⟩
theorem Inv.status (h:Inv P Γ L n mv z Anch w0 c gs w t) {k:Nat} {g:Goroutine} (hk:gs[k]? = some g):g.status=.running∨g.status=.blocked∨g.status=.finished:=by
 cases h.sit k g hk with
 | main h1 h2 =>
   generalize c.M=M at h2
   cases h2 with
   | run a b=>exact .inl (b.running fun _ _ _=>StM.running)
   | blk a _ =>
     rcases a with rfl | rfl
     ·exact .inr (.inl rfl)
     ·exact .inl rfl
 | old h1 h2 h3 h4=>exact h4.status.imp id .inr
 | @work i h1 h2 h3 =>
   generalize c.s i=s at h3
   generalize c.ρ k=ρ at h3
   cases h3 with
   | run a b e=>exact .inl (e.running fun _ _ _=>StW.running)
   | prk a=>exact .inr (.inl rfl)
   | quit a=>exact a.status.imp id .inr
 | close h1 h2 =>
   generalize c.C=C at h2
   generalize c.ρ k=ρ at h2
   cases h2 with
   | run a b e f=>exact .inl (f.running fun _ _ _=>StC.running)
   | blk a b e=>exact .inr (.inl rfl)
   | quit a=>exact a.status.imp id .inr
theorem Inv.someone (h:Inv P Γ L n mv z Anch w0 c gs w t):∃(i:Nat) (g:Goroutine),gs[i]? = some g∧g.status=.running:=by
 have hL:=h.geo.1
 have h0lt:0 < gs.size:=by have:=h.size;omega
 obtain ⟨b0,h0⟩:∃b0,gs[0]? = some b0:=⟨gs[0],by simp [h0lt]⟩
 have hs0:=h.sit0 h0
 by_cases hb:∃r,c.M=.blk r
 ·obtain ⟨r,hM⟩:=hb
  obtain ⟨a,h1,h2,_⟩:=h.woke r hM
  rcases Classical.em (c.C=.quit) with hQ | hQ
  ·exact ⟨0,a,h1,h2 hQ⟩
  have hN:c.C≠.none:=by
   have:=h.tags
   unfold ZJ at this
   rw [hM] at this
   exact this.2
  have hjN:=h.jN hN
  have hsz:=h.size
  rw [isN,if_neg hN] at hsz
  have hne8:∀i,i < n→c.s i≠8:=by
   have:=h.rc
   unfold ZI at this
   rw [hM] at this
   exact this.2.2
  by_cases hw:∃i,i < n∧c.s i≠1
  ·obtain ⟨i,hi,hne⟩:=hw
   obtain ⟨g,hg⟩:∃g,gs[L+i]? = some g:=⟨gs[L+i]'(by omega),by simp⟩
   have hw:=h.sitW (by omega) hg
   have h8:=hne8 i hi
   refine ⟨_,_,hg,?_⟩
   revert h8 hne
   generalize c.s i=s at hw
   generalize c.ρ (L+i)=ρ at hw
   intro h1 h8
   cases hw with
   | run a b e=>exact e.running fun _ _ _=>StW.running
   | prk a=>exact absurd rfl h8
   | quit a=>exact absurd rfl h1
  ·have hall:∀i,i < c.j→c.s i=1:=fun i hi=>Classical.byContradiction fun e=>hw ⟨i,by omega,e⟩
   obtain ⟨g,hg⟩:∃g,gs[L+n]? = some g:=⟨gs[L+n]'(by omega),by simp⟩
   have hc:=h.sitC hg
   refine ⟨_,_,hg,?_⟩
   obtain ⟨st,sm,_,hm⟩:=h.wg
   have hf:c.C=.sem→c.f=1:=fun e=>by
    cases hm with
    | opn a _ _=>rw [e] at a;exact a.elim
    | reg _ _ a =>
      exfalso
      have:Vc c=sumTo c.j (fun _=>0):=sumTo_congr fun i hi=>by rw [hall i hi];rfl
      rw [Ql] at this;omega
    | last l _ a b _=>have:=hall l a;omega
    | sema _ a _=>exact a e
    | fin a _=>rw [e] at a;exact a.elim
   revert hf hQ
   generalize c.C=C at hc
   generalize c.ρ (L+n)=ρ at hc
   intro hQ hf
   cases hc with
   | run a b e f=>exact f.running fun _ _ _=>StC.running
   | blk a b e=>have:=hf rfl;omega
   | quit a=>exact absurd rfl hQ
 ·refine ⟨0,_,h0,?_⟩
  generalize hMM:c.M=M at hs0
  generalize c.O 0=O at hs0
  cases hs0 with
  | run a b=>exact b.running fun _ _ _=>StM.running
  | blk a _=>exact absurd ⟨_,hMM⟩ hb
theorem Inv.move (h:Inv P Γ L n mv z Anch w0 c gs w t) {k:Nat} {g:Goroutine} (hk:gs[k]? = some g) (hrun:g.status=.running) :
 Nx P Γ L n mv z Anch w0 c t (runT P (crowd gs w sl) k)∨Nf P Γ L n Anch w0 t (runT P (crowd gs w sl) k):=by
 have hL:=h.geo.1
 have mute:∀{q:Nat},c.ρ k=.of q→QuitsD P q (c.d k) g→((0 < k∧k < L)∨(∃i,i < c.j∧k=L+i∧c.s i=1)∨(k=L+n∧c.C=.quit))→Nx P Γ L n mv z Anch w0 c t (runT P (crowd gs w sl) k):=fun {q} hρ hq kind=>by
  cases q with
  | zero=>rw [hq.1] at hrun;cases hrun
  | succ q =>
    rcases hq with ⟨e,_⟩ | ⟨_,g',es,hm,hst,hq'⟩
    ·rw [e] at hrun;cases hrun
    ·have hk0:(k == 0)=false:=by
      simp
      rcases kind with x | ⟨i,_,x,_⟩ | ⟨x,_⟩ <;> omega
     exact h.mute hk (by rw [hk0];exact hst w) hm hq' hρ kind
 cases h.sit k g hk with
 | main h1 h2 =>
   subst h1
   by_cases hb:∃r,c.M=.blk r
   ·obtain ⟨r,hM⟩:=hb
    obtain ⟨a,h3,_,h5⟩:=h.woke r hM
    have hC:c.C=.quit:=Classical.byContradiction fun e=>by
     have:=h5 e
     rw [hk] at h3;cases h3
     rw [hrun] at this;cases this
    have hq:=h.allQuit (.inr hC)
    have hjn:=h.jfin hC
    have hr:r=0:=by
     have:=h.rc
     unfold ZI at this
     rw [hM] at this
     rw [← this.2.1]
     have e:sumTo n (fun i=>due (c.s i))=sumTo n (fun _=>0):=sumTo_congr fun i hi=>by rw [hq i (by omega)];rfl
     rw [e,Ql]
    subst hr
    rw [hM] at h2
    generalize c.ρ 0=ρ at h2
    generalize hO:c.O 0=O at h2
    cases h2 with
    | run x _=>exact absurd rfl (x _)
    | @blk _ _ a0 _ _ x y =>
      obtain ⟨_,z1,z2⟩:=y w (.refl w)
      rcases x with rfl | rfl
      ·cases hrun
      ·refine .inr (h.final (a:=a0) hC hk ?_ (hO▸z2))
       rw [stepG_tries]
       exact (stepG_same rfl rfl rfl w).trans z1
   ·have hnb:∀r,c.M≠.blk r:=fun r e=>hb ⟨r,e⟩
    have hw:Walk P true Γ false (StM P Γ n mv z Anch c.got c.M) (c.ρ 0) (c.O 0) g w:=by
     revert hnb
     generalize c.M=M at h2
     intro hnb
     generalize c.O 0=O at h2
     cases h2 with
     | run _ b=>exact b
     | blk _ _=>exact absurd rfl (hnb _)
    rcases h.mainIdle (sl:=sl) hk hnb hw with hs | hs
    ·cases hM:c.M with
     | kd r=>rw [hM] at hs;exact .inl (h.kd hM hk (hs w (.refl w)))
     | up r=>rw [hM] at hs;exact .inl (h.up hM hk (hs w (.refl w)))
     | rd r=>rw [hM] at hs;exact .inl (h.rdM hM hk (hs w (.refl w)))
     | ke r=>rw [hM] at hs;exact .inl (h.keM hM hk (hs w (.refl w)))
     | go r=>rw [hM] at hs;exact .inl (h.goM hM hk (hs w (.refl w)))
     | goc=>rw [hM] at hs;exact .inl (h.gocM hM hk (hs w (.refl w)))
     | rcv r=>rw [hM] at hs;exact h.rcvM hM hk hs
     | blk r=>exact absurd hM (hnb r)
    ·exact .inl hs
 | old h1 h2 h3 h4=>exact .inl (mute h3 h4 (.inl ⟨h1,h2⟩))
 | @work i hi h2 h3 =>
   subst h2
   refine .inl ?_
   by_cases h1:c.s i=1
   ·rw [h1] at h3
    generalize hρ:c.ρ (L+i)=ρ at h3
    cases h3 with
    | run _ b _=>exact absurd rfl b
    | quit h4=>exact mute hρ h4 (.inr (.inl ⟨i,hi,rfl,h1⟩))
   ·have h8:c.s i≠8:=fun e=>by
     rw [e] at h3
     generalize c.ρ (L+i)=ρ at h3
     cases h3 with
     | run b _ _=>exact absurd rfl b
     | prk _=>cases hrun
    have hw:Walk P false Γ (decide (c.s i≤6)) (StW P Γ (mv i) (c.s i)) (c.ρ (L+i)) (c.O (L+i)) g w:=by
     revert h1 h8
     generalize c.s i=s at h3
     generalize c.ρ (L+i)=ρ at h3
     intro h1 h8
     cases h3 with
     | run _ _ b=>exact b
     | prk _=>exact absurd rfl h8
     | quit _=>exact absurd rfl h1
    rcases h.workIdle (sl:=sl) hi hk h8 h1 hw with hs | hs
    ·have hs:=hs w (.refl w)
     generalize hS:c.s i=s at hs
     unfold StW at hs
     split at hs
     ·exact h.w9 hi hS hk hs
     ·exact h.w7 hi hS hk hs
     ·exact h.w6 hi hS hk hs
     ·exact h.w5 hi hS hk hs
     ·exact h.w4 hi hS hk hs
     ·exact h.w3 hi hS hk hs
     ·exact h.w2 hi hS hk hs
     ·exact hs.elim
    ·exact hs
 | close h1 h2 =>
   subst h1
   refine .inl ?_
   by_cases hQ:c.C=.quit
   ·rw [hQ] at h2
    generalize hρ:c.ρ (L+n)=ρ at h2
    cases h2 with
    | run _ b _ _=>exact absurd rfl b
    | quit h4=>exact mute hρ h4 (.inr (.inr ⟨rfl,hQ⟩))
   ·have key:c.C≠.none∧(c.C=.sem→c.f=1)∧Walk P false Γ false (StC P Γ c.C) (c.ρ (L+n)) (c.O (L+n)) g w:=by
     revert hQ
     generalize c.C=C at h2
     generalize c.ρ (L+n)=ρ at h2
     intro hQ
     cases h2 with
     | run a b e f=>exact ⟨a,e,f⟩
     | blk _ _ _=>cases hrun
     | quit _=>exact absurd rfl hQ
    obtain ⟨hN,hf,hw⟩:=key
    rcases h.closeIdle (sl:=sl) hk hN hQ hf hw with hs | hs
    ·cases hC:c.C with
     | none=>exact absurd hC hN
     | kd=>rw [hC] at hs;exact h.c_kd hk hC (hs w (.refl w))
     | look=>rw [hC] at hs;exact h.c_look hk hC (hs w (.refl w))
     | cas vs=>rw [hC] at hs;exact h.c_cas hk hC (hs w (.refl w))
     | wm=>rw [hC] at hs;exact h.c_wm hk hC (hs w (.refl w))
     | sem=>rw [hC] at hs;exact h.c_sem hk hC (hf hC) hs
     | seen=>rw [hC] at hs;exact h.c_seen hk hC (hs w (.refl w))
     | ke=>rw [hC] at hs;exact h.c_ke hk hC (hs w (.refl w))
     | acq=>rw [hC] at hs;exact h.c_acq hk hC (hs w (.refl w))
     | cl=>rw [hC] at hs;exact h.c_cl hk hC (hs w (.refl w))
     | quit=>exact absurd hC hQ
    ·exact hs
theorem fan_runs (h:Inv P Γ L n mv z Anch w0 c gs w t):∃K gs' w' sl' t',runNT P K (crowd gs w sl) t=(.next (crowd gs' w' sl'),t')∧Fin P Γ L n Anch w0 gs' w' t':=by
 have key:∀m,∀(c:Cf) (gs:Array Goroutine) (w:World) (sl:Option (Nat×Nat)) (t:Trace),μ n c=m→Inv P Γ L n mv z Anch w0 c gs w t→∃K gs' w' sl' t',runNT P K (crowd gs w sl) t=(.next (crowd gs' w' sl'),t')∧Fin P Γ L n Anch w0 gs' w' t':=by
  intro m
  induction m using (Lt3.wf (L+n+1)).induction with
  | _ m ih =>
    rintro c gs w sl t rfl h
    obtain ⟨i,g,d,sl',hg,hrun,hstep⟩:=crowd_pick (P:=P) (w:=w) (sl:=sl) (fun g hg=>by
     obtain ⟨i,hi⟩:=Array.mem_iff_getElem?.1 hg
     exact awake_of (h.status hi)) h.someone
    rcases (h.at d).move (sl:=sl') hg hrun with ⟨c',gs',w',sl'',ops,e1,e2,e3⟩ | ⟨gs',w',sl'',ops,e1,e2⟩
    ·obtain ⟨K,gs2,w2,sl2,t2,r1,r2⟩:=ih _ e2 c' gs' w' sl'' _ rfl e3
     exact ⟨K+1,gs2,w2,sl2,t2,by simp only [runNT,hstep,e1];exact r1,r2⟩
    ·exact ⟨1,gs',w',sl'',_,by simp only [runNT,hstep,e1],e2⟩
 exact key _ c gs w sl t rfl h
end
end Go.Fan
end
section
namespace Go.Fan
open Go Go.Conc Go.ConcN
open Go.ConcR (KK wgBlock WgAt stA smA rd wr DC0 g_of_ofEvents)
section
variable {P:Program} {Γ:Ge} {n:Nat} {mv:Nat→Value} {z:Value} {Anch:(Nat→Prop)→Goroutine→World→Prop}
variable {gs:Array Goroutine} {w:World} {sl:Option (Nat×Nat)} {t:Trace}
theorem fan (hg:Γ.Wg < Γ.B0∧Γ.Ch < Γ.B0∧Γ.Ch≠Γ.Wg∧n < 2147483648) (hB:Γ.B0=w.heap.size) {a:Goroutine} (h0:gs[0]? = some a) {q:Nat→Nat} (hl:Leavers P t gs q) {Shun:Loc→Prop} {B:Nat} (hB':B≤Γ.Wg) (hP:Past Shun B t)
 (hS:∀l,Shun l→∃b,blk l=some b∧Γ.S b) (hSc:¬ Γ.S Γ.Ch) (hgs:∀(i:Nat) (op:MemOp),t[i]? = some op→op.g < gs.size)
 (hwg:WgAt Γ.ty Γ.Wg w 0 0) (hch:Open Γ w) (hs:MSp P Γ n mv z Anch n (fun _=>False) a w) :
 ∃K gs' w' sl' t',runNT P K (crowd gs w sl) t=(.next (crowd gs' w' sl'),t')∧Fin P Γ gs.size n Anch w gs' w' t':=by
 have hlt:=(Array.getElem?_eq_some_iff.1 h0).1
 obtain ⟨M,ρ0,hM,hT,hW,hnb⟩:∃M ρ0,(M=.goc∧n=0∨∃r,n=r+1∧M=.kd r)∧dM M=0∧Walk P true Γ false (StM P Γ n mv z Anch [] M) ρ0 (fun _=>False) a w∧(∀r,M≠.blk r)∧pend M=0:=by
  cases n with
  | zero=>obtain ⟨ρ,h⟩:=hs;exact ⟨.goc,ρ,.inl ⟨rfl,rfl⟩,rfl,h,by simp,rfl⟩
  | succ r=>obtain ⟨ρ,h⟩:=hs;exact ⟨.kd r,ρ,.inr ⟨r,rfl,rfl⟩,rfl,h,by simp,rfl⟩
 let c:Cf:={ j:=0,M:=M,got:=[],C:=.none,f:=0,s:=fun _=>9,O:=fun _ _=>False,d:=fun k=>Deaf t k,ρ:=fun k=>if k=0 then ρ0 else .of (q k) }
 have hact:∀k,Act gs.size n c k↔k=0:=fun k=>⟨fun h=>by
  rcases h with h | ⟨i,hi,_⟩ | ⟨h,_⟩
  ·exact h
  ·exact absurd hi (Nat.not_lt_zero _)
  ·exact absurd rfl h,.inl⟩
 have hown:∀k b,own gs.size n c k b→False:=fun k b h=>h.2
 obtain ⟨s,r,tm,hch⟩:=hch
 have hno:NoRelease (stA Γ.Wg) t:=fun i hi=>by
  obtain ⟨op,hop,ho⟩:=Option.map_eq_some_iff.1 hi
  have:=hP.seen op (Array.mem_of_getElem? hop)
  rw [ho] at this
  have e:Γ.Wg < B:=this
  omega
 have hI:Inv P Γ gs.size n mv z Anch w c gs w t:=by
  refine ⟨⟨hlt,hg⟩,?_,?_,fun k g hk=>?_,fun k _=>rfl,?_,fun i hi=>absurd hi (Nat.not_lt_zero _),fun e=>absurd rfl e,⟨0,0,hwg,?_⟩,⟨false,s,r,tm,hch,by simp [c]⟩,?_,⟨fun k k' b h=>(hown k b h).elim,fun k b h=>(hown k b h).elim,fun k b h=>(hown k b h).elim,hg.1,hg.2.1,Nat.le_of_eq hB⟩,?_,hno,fun i hi=>absurd hi (Nat.not_lt_zero _),(fun e=>by cases e),(fun e=>by cases e),⟨fun _ _ _ _=>rfl,Nat.le_of_eq hB,rfl,rfl,rfl⟩,fun _ _ _ h=>h,fun r e=>absurd e (hnb.1 r)⟩
  ·show gs.size=gs.size+0+isN c
   simp [isN,c]
  ·unfold ZJ
   rcases hM with ⟨rfl,rfl⟩ | ⟨r,rfl,rfl⟩
   ·exact ⟨rfl,rfl⟩
   ·exact ⟨Nat.lt_succ_self r,show 0+(r+1)=r+1 by omega,rfl⟩
  ·by_cases e:k=0
   ·subst e
    rw [h0] at hk;cases hk
    exact .main rfl (.run hnb.1 (by simpa [c] using hW))
   ·exact .old (q:=q k) (by omega) (Array.getElem?_eq_some_iff.1 hk).1 (by simp [c,e]) (hl.old k g (by omega) hk)
  ·show Deaf t 0=dM M
   rw [hP.hears,hT]
  ·have:=Mode.opn (c:=c) trivial (fun i hi=>absurd hi (Nat.not_lt_zero _)) (fun vs e=>by cases e)
   have e:((Vc c+pend c.M:Nat):Int) * KK=0:=by
    show ((sumTo 0 _+pend M:Nat):Int) * KK=0
    rw [hnb.2];simp [sumTo]
   rw [e] at this
   exact this
  ·unfold ZI
   rcases hM with ⟨rfl,rfl⟩ | ⟨r,rfl,rfl⟩
   ·exact ⟨rfl,fun i hi=>absurd hi (Nat.not_lt_zero _)⟩
   ·exact ⟨rfl,fun i hi=>absurd hi (Nat.not_lt_zero _)⟩
  ·rw [YP rfl]
   refine TR.start (hP.mono (show B≤w.heap.size by omega)) (fun l hl=>?_) hact hown (fun i x hx hb=>?_) (fun b hb l hl hs=>?_) (fun l hl hs=>?_) hgs
   ·obtain ⟨b,h1,h2⟩:=hS l hl
    exact ⟨b,h1,.inl h2⟩
   ·exfalso
    obtain ⟨op,hop,ht⟩:=touch_of hx
    have:=qas ht (hP.seen op (Array.mem_of_getElem? hop)) hb
    omega
   ·obtain ⟨b',h1,h2⟩:=hS l hs
    rw [hl] at h1;cases h1
    exact hb.2.2.2 h2
   ·obtain ⟨b',h1,h2⟩:=hS l hs
    rw [hl] at h1;cases h1
    exact hSc h2
 exact fan_runs hI
end
end Go.Fan
end
section
namespace Go.Proofs.Tryz
open Go Go.Conc Go.Fan
open Go.ConcN (upd WgLive)
open Go.ConcR (WgAt)
section
variable {Γ:Ge} {w0:World} {bb cb xb n cap:Nat} {ga:Option Addr} {x0 x1 x2 x3:Value} {ans:Nat→Int} {cs:List Frame}
theorem qeR (hty:Γ.ty=97) (hn:n≤1000)
 (hKid:∀i < n,∀ib w,KidF Γ cb xb ib i #[x0,x1,x2,x3,.slice ga n cap] (fun b=>b=ib) w→ib < w.heap.size→Kept Γ (fun _=>False) w0 w→Work Tryz.prog Γ (mv ans i) (fun b=>b=ib) (born Tryz.prog (jh Γ.Wg cb ib xb)) w)
 {v:Nat→Value} {w:World} (hW:NW Γ w0 bb cb xb #[x0,x1,x2,x3,.slice ga n cap] w) (hV:NV Γ bb cb xb v) :
 MSp Tryz.prog Γ n (mv ans) yX (Jz Γ n ans cs) n (fun _=>False) (G (nb.at ⟨nT v,[]⟩ [.code Qp]) cs) w:=by
 obtain ⟨S,hS⟩:=msp_as Tryz.prog Γ n (mv ans) yX (Jz Γ n ans cs) n
 rw [hS,n_tail5]
 refine .ctl rfl (fun _=>stepG_seq) ?_
 refine Way.recode n_A ?_
 refine .ctl rfl (fun _=>stepG_seq) ?_
 refine .ctl rfl (fun _=>stepG_region) ?_
 rw [n_size6]
 simp only [List.range,List.range.loop]
 refine Yl.way (y6_0 (bb:=bb) (by rw [ql (by decide)];exact hV.v1)) n_at6_0 n_g6_0 qH n_d6_0 (by decide) ?_
 obtain ⟨ga',cap',h4⟩:=hW.cell4
 refine .load1 (ad:=⟨bb,4,none⟩) (v:=.slice ga' n cap') n_at6_1 n_g6_1 qH n_op6_1 (by rw [ql (by decide)];simp [upd]) Tryz.isAgg24 (.inl hW.rb) h4 ?_
 rw [n_d6_1,yc (by decide)]
 refine Yl.way (y6_2 (ga:=ga') (n:=n) (cap:=cap') (by rw [ql (by decide)];simp [upd])) n_at6_2 n_g6_2 qH n_d6_2 (by decide) ?_
 refine Yl.way (y6_3 rfl) n_at6_3 n_g6_3 qH n_d6_3 (by decide) ?_
 refine .ctl rfl (fun _=>stepG_region_end) ?_
 refine .ctl rfl (fun _=>stepG_block) ?_
 refine .ctl rfl (fun _=>stepG_loop) ?_
 rw [← hS]
 refine qcU (by omega) hKid (fun b₀ a₀ ops₀ i₀ rest₀ k₀ cs w h=>lib_add hty b₀ a₀ ops₀ i₀ rest₀ k₀ cs w h) (fun w h=>lib_clos hty h.rc h.ch h.live) (fun v w h h'=>main_rcv hn v w h h') n _ w (Nat.le_refl _) hW
  ((((hV.upd (by decide)).upd (by decide)).upd (by decide)).upd (by decide)) (by simp [upd]) (by simp [upd])
theorem qeQ {gs:Array Goroutine} {w:World} {sl:Option (Nat×Nat)} {t:Trace} (hty:Γ.ty=97) (hn:n≤1000)
 (hg:Γ.Wg < Γ.B0∧Γ.Ch < Γ.B0∧Γ.Ch≠Γ.Wg) (hB:Γ.B0=w.heap.size) {v:Nat→Value} (h0:gs[0]? = some (G (nb.at ⟨nT v,[]⟩ [.code Qp]) cs)) {q:Nat→Nat} (hl:Leavers Tryz.prog t gs q) {Shun:Loc→Prop} {B:Nat} (hB':B≤Γ.Wg) (hP:Past Shun B t)
 (hSh:∀l,Shun l→∃b,blk l=some b∧Γ.S b) (hSc:¬ Γ.S Γ.Ch) (hgs:∀(i:Nat) (op:MemOp),t[i]? = some op→op.g < gs.size)
 (hwg:WgAt Γ.ty Γ.Wg w 0 0) (hch:Fan.Open Γ w) (hW:NW Γ w bb cb xb #[x0,x1,x2,x3,.slice ga n cap] w) (hV:NV Γ bb cb xb v)
 (hKid:∀i < n,∀ib w₁,KidF Γ cb xb ib i #[x0,x1,x2,x3,.slice ga n cap] (fun b=>b=ib) w₁→ib < w₁.heap.size→Kept Γ (fun _=>False) w w₁→Work Tryz.prog Γ (mv ans i) (fun b=>b=ib) (born Tryz.prog (jh Γ.Wg cb ib xb)) w₁) :
 ∃K gs' w' sl' t',runNT Tryz.prog K (crowd gs w sl) t=(.next (crowd gs' w' sl'),t')∧Fin Tryz.prog Γ gs.size n (Jz Γ n ans cs) w gs' w' t' :=
 fan ⟨hg.1,hg.2.1,hg.2.2,by omega⟩ hB h0 hl hB' hP hSh hSc hgs hwg hch (qeR hty hn hKid hW hV)
structure KidData (Γ:Ge) (K:Sim.Cfg) (P':Program) (g:Nat→Bool) (i:Nat) (a:Int) (cells:Array Value) (w:World):Prop where
 data:∃(Post:Value→World→Prop) (Ws:World) (R:Nat→Nat→Prop) (bs:Value),Sim.LT P' true (Sim.FinP P' Post) (Sim.entryG P' 62 #[bs,.int .i64 i] [Sim.c0]) Ws∧(∀x w,Post x w→x=.int .i64 a) ∧
  Sim.VR K.C R bs (.agg cells)∧MW K Γ g R (fun _=>False) Ws w
theorem qcX {K:Sim.Cfg} {P':Program} {c g:Nat→Bool} (Z:Sim.Cov K P' Tryz.prog c g (fun _=>False)) (hf:K.C 62) {gs:Array Goroutine} {w:World} {sl:Option (Nat×Nat)} {t:Trace} (hty:Γ.ty=97) (hn:n≤1000)
 (hg:Γ.Wg < Γ.B0∧Γ.Ch < Γ.B0∧Γ.Ch≠Γ.Wg) (hB:Γ.B0=w.heap.size) {v:Nat→Value} (h0:gs[0]? = some (G (nb.at ⟨nT v,[]⟩ [.code Qp]) cs)) {q:Nat→Nat} (hl:Leavers Tryz.prog t gs q) {Shun:Loc→Prop} {B:Nat} (hB':B≤Γ.Wg) (hP:Past Shun B t)
 (hSh:∀l,Shun l→∃b,blk l=some b∧Γ.S b) (hSc:¬ Γ.S Γ.Ch) (hgs:∀(i:Nat) (op:MemOp),t[i]? = some op→op.g < gs.size)
 (hwg:WgAt Γ.ty Γ.Wg w 0 0) (hch:Fan.Open Γ w) (hW:NW Γ w bb cb xb #[x0,x1,x2,x3,.slice ga n cap] w) (hV:NV Γ bb cb xb v)
 (hKid:∀i < n,KidData Γ K P' g i (ans i) #[x0,x1,x2,x3,.slice ga n cap] w) :
 ∃K gs' w' sl' t',runNT Tryz.prog K (crowd gs w sl) t=(.next (crowd gs' w' sl'),t')∧Fin Tryz.prog Γ gs.size n (Jz Γ n ans cs) w gs' w' t' :=
 qeQ hty hn hg hB h0 hl hB' hP hSh hSc hgs hwg hch hW hV fun i hi ib w₁ hF hlt hk=>by
  obtain ⟨Post,Ws,R,bs,hT,hp,hv,hM⟩:=(hKid i hi).data
  exact kid_way (lib_done hty) Z hT hp hf hv hF (fun b hb=>hb▸hlt) (hM.kept hk)
end
end Go.Proofs.Tryz
end
section
namespace Go.Fan
open Go Go.Instr Go.Conc Go.Sim
open Go.ConcN (sumTo upd sumTo_upd upd_ne upd_same)
theorem evO_evL {Γ:Ge} {O S:Nat→Prop} {B B':Nat} {e:Event} (hO:∀b,O b→¬ S b) (hB:∀b,S b→b < B) (hS:∀b,Γ.ro b→¬ S b) (h:EvO Γ O B B' e):EvL (ShunOf S) B' e:=by
 obtain ⟨h1,⟨h2,h3,_⟩,h4⟩:=h
 refine ⟨fun x hx hs=>?_,h2,h3,h4⟩
 obtain ⟨_,b,hb,hr⟩:=h1 x hx
 exfalso
 have hsb:S b:=by
  revert hs hb
  cases x.loc <;> intro hs hb <;> simp [ShunOf,blk] at hs hb
  ·rw [← hb];exact hs
  ·rw [← hb];exact hs
 rcases hr with ⟨hr,_⟩ | hr | hr
 ·exact hS b hr hsb
 ·exact hO b hr hsb
 ·have:=hB b hsb;omega
section
variable {P:Program} {Γ:Ge} {S:Nat→Prop} {Stop:(Nat→Prop)→Goroutine→World→Prop}
theorem rm_way (hS:∀b,Γ.ro b→¬ S b) (r:Rank) :
 ∀(M:Nat) (O:Nat→Prop) (gs:Array Goroutine) (a:Goroutine) (w:World) (sl:Option (Nat×Nat)) (t:Trace) (qq:Nat→Nat),sumTo gs.size qq=M→gs[0]? = some a→Leavers P t gs qq→Past (ShunOf S) w.heap.size t→(∀(i:Nat) (op:MemOp),t[i]? = some op→op.g < gs.size) →
  (∀b,O b→¬ S b)→(∀b,S b→b < w.heap.size)→Walk P true Γ false Stop r O a w →
  ∃(N:Nat) (O':Nat→Prop) (gs':Array Goroutine) (a':Goroutine) (w':World) (sl':Option (Nat×Nat)) (t':Trace),runNT P N (crowd gs w sl) t=(.next (crowd gs' w' sl'),t')∧RM P S gs' a' w' t'∧Stop O' a' w' ∧
   w.heap.size≤w'.heap.size∧(∀b,b < w.heap.size→¬ O b→w'.heap[b]? = w.heap[b]?)∧w'.tape=w.tape∧w'.os=w.os∧w'.output=w.output:=by
 induction r using Rank.wf.induction with
 | _ r ihr =>
 intro M
 induction M using Nat.strongRecOn with
 | _ M ih =>
 intro O gs a w sl t qq hq h0 hL hP hNm hOS hSw hG
 have now:(∀w₁,Ry Γ O w w₁→Stop O a w₁)→_:=fun h=>(⟨0,O,gs,a,w,sl,t,rfl,⟨h0,⟨qq,hL⟩,hP,hNm⟩,h w (.refl w),Nat.le_refl _,fun _ _ _=>rfl,rfl,rfl,rfl⟩:∃(N:Nat) (O':Nat→Prop) (gs':Array Goroutine) (a':Goroutine) (w':World) (sl':Option (Nat×Nat)) (t':Trace),runNT P N (crowd gs w sl) t=(.next (crowd gs' w' sl'),t')∧RM P S gs' a' w' t'∧Stop O' a' w' ∧
       w.heap.size≤w'.heap.size∧(∀b,b < w.heap.size→¬ O b→w'.heap[b]? = w.heap[b]?)∧w'.tape=w.tape∧w'.os=w.os∧w'.output=w.output)
 cases r with
 | zero=>exact now hG
 | node f =>
 rcases id hG with hstop | ⟨hrun,hstep⟩
 ·exact now hstop
 clear now
 have haw:∀x∈gs,awake x:=by
  intro x hx
  obtain ⟨i,hi,rfl⟩:=Array.mem_iff_getElem.1 hx
  rcases Nat.eq_zero_or_pos i with rfl | hpos
  ·have:gs[0]=a:=by simpa [Array.getElem?_eq_getElem hi] using h0
   rw [this];exact awake_of (.inl hrun)
  ·exact awake_of ((hL.old i _ hpos (Array.getElem?_eq_getElem hi)).status.elim .inl fun x=>.inr (.inr x))
 obtain ⟨i,x,d,sl',hi,hx,hst⟩:=crowd_pick (P:=P) (w:=w) (sl:=sl) haw ⟨0,a,h0,hrun⟩
 rcases Nat.eq_zero_or_pos i with rfl | hpos
 ·obtain rfl:x=a:=by rw [h0] at hi;exact (Option.some.inj hi).symm
  have hs:=hstep (w.at d) (.at w d)
  cases e:stepG P true x (w.at d) with
  | go a1 w1 es =>
    rw [e] at hs
    obtain ⟨⟨hd,_⟩,hg⟩:=hs
    have hsz':w.heap.size≤w1.heap.size:=hd.size
    have hev:∀e∈es,EvL (ShunOf S) w1.heap.size e:=fun e he=>evO_evL hOS hSw hS (hd.evs e he)
    have hrunT:=runT_crowd_go (P:=P) (sl:=sl') (i:=0) hi (show stepG P (0 == 0) x (w.at d)=_ from e)
    have hlt:0 < gs.size:=(Array.getElem?_eq_some_iff.1 h0).1
    have hsize:((gs.map (woken P x a1 w1)).setIfInBounds 0 a1).size=gs.size:=by simp
    obtain ⟨N,O',gs1,a2,w2,sl2,t2,r1,r2,r3,r4,r5,r6,r7,r8⟩:=ihr (f (w.at d)) (.mk f _) _ (grow O (w.at d) w1) ((gs.map (woken P x a1 w1)).setIfInBounds 0 a1) a1 w1 sl' (t ++ MemOp.ofEvents 0 x.frame.fn x.frame.place es) qq rfl (by simp [hlt])
     ⟨fun j y hj hy=>by
       have hne:0≠j:=by omega
       rw [Array.getElem?_setIfInBounds_ne hne,Array.getElem?_map] at hy
       obtain ⟨z,hz,rfl⟩:=Option.map_eq_some_iff.1 hy
       have hq:=hL.old j z hj hz
       rw [woken_quitsD hq,Deaf_other t (by omega) _ (fun op hop=>by obtain ⟨e,_,rfl⟩:=Go.Conc.mem_ofEvents hop;rfl)]
       exact hq,fun j hj=>by
       rw [Deaf_other t (g':=0) (by simp at hj;omega) _ (fun op hop=>by obtain ⟨e,_,rfl⟩:=Go.Conc.mem_ofEvents hop;rfl)]
       exact hL.above j (by simpa using hj)⟩
     ((hP.mono hsz').own hev) (Qf hNm (by simp) fun op hop=>by obtain ⟨e,_,rfl⟩:=Go.Conc.mem_ofEvents hop;simpa using hlt)
     (fun b hb hs=>hb.elim (fun h=>hOS b h hs) fun h=>by have:=hSw b hs;have h1:w.heap.size≤b:=h.1;omega) (fun b hb=>Nat.lt_of_lt_of_le (hSw b hb) hsz') hg
    refine ⟨N+1,O',gs1,a2,w2,sl2,t2,by simp only [runNT,hst,hrunT];exact r1,r2,r3,Nat.le_trans hsz' r4,fun b hb ho=>?_,r6.trans hd.tape,r7.trans hd.os,r8.trans hd.output⟩
    rw [r5 b (Nat.lt_of_lt_of_le hb hsz') fun h=>h.elim ho fun h=>by have h1:w.heap.size≤b:=h.1;omega]
    exact hd.stay b hb ho
  | _=>rw [e] at hs;exact hs.elim
 ·have hq1:=hL.old i x hpos hi
  have hi0:(i == 0)=false:=by simp;omega
  have hlt:i < gs.size:=(Array.getElem?_eq_some_iff.1 hi).1
  cases hqi:qq i with
  | zero=>rw [hqi] at hq1;rw [hq1.1] at hx;cases hx
  | succ k =>
    rw [hqi] at hq1
    rcases hq1 with ⟨hf,_⟩ | ⟨_,g',es,hm,hstp,hq'⟩
    ·rw [hf] at hx;cases hx
    have hrunT:=runT_crowd_go (P:=P) (sl:=sl') (i:=i) hi (by rw [hi0];exact hstp (w.at d))
    have hsz:((gs.map (woken P x g' (w.at d))).setIfInBounds i g').size=gs.size:=by simp
    have hsum:sumTo gs.size (upd qq i k)+(k+1)=sumTo gs.size qq+k:=by
     have:=sumTo_upd qq k id hlt
     simpa [hqi] using this
    obtain ⟨N,O',gs1,a2,w2,sl2,t2,r1,r2,r3,r4,r5,r6,r7,r8⟩:=ih (sumTo gs.size (upd qq i k)) (by omega) O ((gs.map (woken P x g' (w.at d))).setIfInBounds i g') a (w.at d) sl' (t ++ MemOp.ofEvents i x.frame.fn x.frame.place es) (upd qq i k) (by rw [hsz])
     (by
       have hne:i≠0:=by omega
       rw [Array.getElem?_setIfInBounds_ne hne,Array.getElem?_map,h0]
       simp [woken_run hrun])
     ⟨fun j y hj hy=>by
       by_cases hji:i=j
       ·subst hji
        rw [Array.getElem?_setIfInBounds_self_of_lt (by simpa using hlt)] at hy
        obtain rfl:=Option.some.inj hy
        rw [upd_same,Deaf_own]
        exact hq'
       ·rw [Array.getElem?_setIfInBounds_ne hji,Array.getElem?_map] at hy
        obtain ⟨z,hz,rfl⟩:=Option.map_eq_some_iff.1 hy
        have hqj:=hL.old j z hj hz
        rw [woken_quitsD hqj,upd_ne qq k (Ne.symm hji),Deaf_other t hji _ (fun op hop=>by obtain ⟨e,_,rfl⟩:=Go.Conc.mem_ofEvents hop;rfl)]
        exact hqj,fun j hj=>by
       rw [Deaf_other t (g':=i) (by simp at hj;omega) _ (fun op hop=>by obtain ⟨e,_,rfl⟩:=Go.Conc.mem_ofEvents hop;rfl)]
       exact hL.above j (by simpa using hj)⟩
     (hP.mute (by omega) hm) (Qf hNm (by simp) fun op hop=>by obtain ⟨e,_,rfl⟩:=Go.Conc.mem_ofEvents hop;simpa using hlt) hOS hSw
     (Walk.rely hG (.at w d))
    exact ⟨N+1,O',gs1,a2,w2,sl2,t2,by simp only [runNT,hst,hrunT];exact r1,r2,r3,r4,r5,r6,r7,r8⟩
theorem RM.way (hS:∀b,Γ.ro b→¬ S b) {O:Nat→Prop} {gs:Array Goroutine} {a:Goroutine} {w:World} {sl:Option (Nat×Nat)} {t:Trace} (h:RM P S gs a w t) (hOS:∀b,O b→¬ S b) (hSw:∀b,S b→b < w.heap.size) (hG:Way P true Γ false Stop O a w) :
 ∃(N:Nat) (O':Nat→Prop) (gs':Array Goroutine) (a':Goroutine) (w':World) (sl':Option (Nat×Nat)) (t':Trace),runNT P N (crowd gs w sl) t=(.next (crowd gs' w' sl'),t')∧RM P S gs' a' w' t'∧Stop O' a' w' ∧
    w.heap.size≤w'.heap.size∧(∀b,b < w.heap.size→¬ O b→w'.heap[b]? = w.heap[b]?)∧w'.tape=w.tape∧w'.os=w.os∧w'.output=w.output:=by
 obtain ⟨r,hG⟩:=hG
 obtain ⟨h0,⟨qq,hL⟩,hP,hN⟩:=h
 exact rm_way hS r _ O gs a w sl t qq rfl h0 hL hP hN hOS hSw hG
end
end Go.Fan
end
