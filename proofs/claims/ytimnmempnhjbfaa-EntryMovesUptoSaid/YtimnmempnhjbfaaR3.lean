/-
  THE READING, PART 3: a law's call at the data level, as the row wants it.
-/
import Derived.Test.YtimnmempnhjbfaaR2
import Derived.RowKit3
set_option linter.unusedSimpArgs false
set_option linter.unusedVariables false
namespace Go.Dl
open Go Go.RowKit

section
variable {P : Program} {w : World}

/-- No package table is asked. -/
def G0 : Nat → DVal := fun g => .optr g 0
theorem gok0 (H : DHeap) : GOk G0 w H := fun g => by simp [G0, Rel]

theorem Ext.stands {w' : World} {H' : DHeap} (h : Ext (fun _ => none) w H' w') : Stands w w' := fun b hb => h.block b hb rfl

theorem Ext.grown {w' : World} {H' : DHeap} (h : Ext (fun _ => none) w H' w') : Grown w w' := by
  refine ⟨⟨h.os, h.output, fun i hi => ?_⟩, h.fz, h.size⟩
  rw [h.block i hi rfl]
  cases ho : w.heap[i]? with
  | none => simp
  | some o => cases o <;> simp

theorem simHeap_none (w : World) : SimHeap w (fun _ => none) := fun r o h => by cases h

theorem DCalls.row {G : Nat → DVal} {f : FuncId} {args : List DVal} {vs : Array Value} (h : DCalls P G f args (fun _ => none) (fun e _ => e = .ret (.bool true))) (hv : RelL w (fun _ => none) args vs.toList) (hG : GOk G w (fun _ => none)) :
    Calls P f vs w fun e W' => e = .returned (.bool true) ∧ Grown w W' ∧ Stands w W' := by
  have := h.2 vs.toList w hv (simHeap_none w) hG
  simp only [Array.toArray_toList] at this
  refine this.mono fun e w' ⟨e', H', he, hr, _, hE⟩ => ?_
  subst he
  cases hr with
  | ret d v hv => simp only [Rel] at hv; subst hv; exact ⟨rfl, hE.grown, hE.stands⟩

theorem RelL.cons {Hp : DHeap} {d : DVal} {v : Value} {ds : List DVal} {vs : List Value} (h : Rel w Hp d v) (k : RelL w Hp ds vs) : RelL w Hp (d :: ds) (v :: vs) := by
  simp only [RelL]; exact ⟨v, vs, rfl, h, k⟩
theorem RelL.one {Hp : DHeap} {d : DVal} {v : Value} (h : RelL w Hp [d] [v]) : Rel w Hp d v := by
  simp only [RelL] at h
  obtain ⟨y, ys, h1, h2, _⟩ := h
  cases h1; exact h2

end
end Go.Dl
