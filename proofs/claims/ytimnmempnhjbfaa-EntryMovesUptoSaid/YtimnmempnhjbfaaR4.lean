/-
  THE READING, PART 4: an argument, as the data level sees it; a law's contract.
-/
import Derived.Test.YtimnmempnhjbfaaR3
import Derived.Test.YtimnmempnhjbfaaD9
set_option linter.unusedSimpArgs false
set_option linter.unusedVariables false
namespace Go.Dl
open Go Go.RowKit

section
variable {P : Program} {H : Type} {w : World}

theorem okWide_cells {r : Reach} {base : Nat} {t : TypeId} {v : Value} {d : TypeDesc} (hu : P.underlying t = some d) (hd : (∃ e, d = .slice e) ∨ (∃ k, d = .int k) ∨ d = .bool ∨ d = .string) (h : Value.okWide P w r base t v) : v.cells = #[v] := by
  unfold Value.okWide at h
  rw [hu] at h
  cases v <;> first | rfl | skip
  rename_i xs
  rcases hd with ⟨e, rfl⟩ | ⟨k, rfl⟩ | rfl | rfl <;> (unfold Cell.okWide at h; rw [hu] at h; simp [Cell.ok, hu] at h)

theorem cells_slice1 {r : Reach} {base : Nat} {t e : TypeId} {v : Value} (hu : P.underlying t = some (.slice e)) (h : Value.okWide P w r base t v) : v.cells = #[v] := okWide_cells hu (.inl ⟨_, rfl⟩) h
theorem cells_int1 {r : Reach} {base : Nat} {t : TypeId} {k : IntKind} {v : Value} (hu : P.underlying t = some (.int k)) (h : Value.okWide P w r base t v) : v.cells = #[v] := okWide_cells hu (.inr (.inl ⟨_, rfl⟩)) h
theorem cells_bool1 {r : Reach} {base : Nat} {t : TypeId} {v : Value} (hu : P.underlying t = some .bool) (h : Value.okWide P w r base t v) : v.cells = #[v] := okWide_cells hu (.inr (.inr (.inl rfl))) h
theorem cells_str1 {r : Reach} {base : Nat} {t : TypeId} {v : Value} (hu : P.underlying t = some .string) (h : Value.okWide P w r base t v) : v.cells = #[v] := okWide_cells hu (.inr (.inr (.inr rfl))) h

theorem arg_of {t : TypeId} {α : Type} {f : α → DVal} {g : α → DataW H → Prop} (hr : Reads P H w t α (fun x => [f x]) g) {enc : TypeId × Value → H} {base : Nat} {sp : Nat → Bool} {held : Bool} {v : Value} {d : DataW H} {ps : List MemPlace}
    (h : DataW.Trod enc P w base sp held t v d ps) (hv : v.cells = #[v]) : ∃ x, g x d ∧ Rel w (fun _ => none) (f x) v := by
  obtain ⟨fuel, h⟩ := h
  rw [hv] at h
  obtain ⟨x, hg, hx⟩ := hr _ _ _ _ _ _ _ _ h
  exact ⟨x, hg, hx.one⟩

end
end Go.Dl
