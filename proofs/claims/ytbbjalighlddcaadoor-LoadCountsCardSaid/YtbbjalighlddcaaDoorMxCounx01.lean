/-
  A part of the proof (ArgSpare): lemmas about the program and about the machine that the last text of this claim rests upon; no condition.
-/
import Derived.ReadAgain
import Derived.ChangeReads
import Derived.ChangeOld
import Derived.ChangeShapes
set_option linter.unusedSimpArgs false
set_option linter.unusedVariables false
section
namespace Go.Proofs.YtbbjalighlddcaaDoor
open Go Go.ChangeShapes
section
variable {H : Type} {enc : TypeId × Value → H} {P : Program} {w w' : World}
theorem sameAt_of (hh : ∀ k, k < w.heap.size → w'.heap[k]? = w.heap[k]?) {p : MemPlace} (hp : p.block < w.heap.size) : w.sameAt w' p := by
 cases p with
 | cell b o =>
   have := hh b hp
   show w'.cell? ⟨b, o, none⟩ = w.cell? ⟨b, o, none⟩
   unfold World.cell?
   simp only [this]
 | map b => exact hh b hp
theorem args_behind {T : TypeId → Prop} (K : Kids P T) (hz : ∀ t e, T t → P.underlying t = some (.slice e) → 0 < P.cellsOf e) (hh : ∀ k, k < w.heap.size → w'.heap[k]? = w.heap[k]?) : ∀ {ts : List TypeId} {vs : List Value} {ds : List (DataW H)} {ps : List MemPlace},
 (∀ t ∈ ts, T t) → DataW.TrodAll enc P w 0 (fun _ => true) true ts vs ds ps → DataW.TrodAll enc P w' 0 (fun b => decide (b < w.heap.size)) true ts vs ds ps
 | [], _, _, _, _, h => by
   obtain ⟨rfl, rfl, rfl⟩ := trodAll_nil h
   rfl
 | t :: ts, _, _, _, hT, h => by
   obtain ⟨v, vs1, d, ds1, a, b, rfl, rfl, rfl, ⟨n, h1⟩, h2⟩ := trodAll_cons h
   refine ⟨a, b, ⟨n, ?_⟩, args_behind K hz hh (fun u hu => hT u (List.mem_cons_of_mem _ hu)) h2, rfl⟩
   have hl := fun p hp => DataW.trod_lt n _ _ _ h1 p hp
   have h3 := DataW.trod_respare (spare' := fun b => decide (b < w.heap.size)) K hz n _ _ _ (hT t List.mem_cons_self) h1 (fun p hp => by simpa using hl p hp)
   exact DataW.trod_carry n _ _ _ h3 fun p hp => sameAt_of hh (hl p hp)
end
end Go.Proofs.YtbbjalighlddcaaDoor
end
