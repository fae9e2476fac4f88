/-
  THE READING, PART 5: the bound on what is read, at plain data.
-/
import Derived.Test.YtimnmempnhjbfaaRows
import Derived.Test.YtimnmempnhjbfaaR4
set_option linter.unusedSimpArgs false
set_option linter.unusedVariables false
namespace Go.Dl
open Go Go.RowKit Go.Proofs.Ytimnmempnhjbfaa

section
variable {H : Type}

theorem bulk_one (d : DataW H) : 1 ≤ Rows.uptoBulk d := by
  cases d
  case lit l => cases l <;> simp only [Rows.uptoBulk] <;> omega
  all_goals simp only [Rows.uptoBulk]
  all_goals omega

theorem bulk_small {l : List (DataW H)} (h : Rows.uptoSmall H l = true) : Rows.uptoBulkAll l ≤ 1048576 := of_decide_eq_true h
theorem bulk_app (l r : List (DataW H)) : Rows.uptoBulkAll (l ++ r) = Rows.uptoBulkAll l + Rows.uptoBulkAll r := by
  induction l with
  | nil => simp [Rows.uptoBulkAll]
  | cons d l ih => simp only [List.cons_append, Rows.uptoBulkAll, ih]; omega

theorem bulk_len {α : Type} {g : α → DataW H → Prop} : ∀ {xs : List α} {ds : List (DataW H)}, AllG g xs ds → xs.length ≤ Rows.uptoBulkAll ds
  | [], [], _ => by simp
  | [], _ :: _, h => h.elim
  | _ :: _, [], h => h.elim
  | x :: xs, d :: ds, h => by
    have := bulk_len h.2
    have := bulk_one d
    simp only [List.length_cons, Rows.uptoBulkAll]; omega

theorem bulk_sum {α : Type} {g : α → DataW H → Prop} (m : α → Nat) (hm : ∀ x d, g x d → m x + 1 ≤ Rows.uptoBulk d) : ∀ {xs : List α} {ds : List (DataW H)}, AllG g xs ds → (xs.map m).sum + xs.length ≤ Rows.uptoBulkAll ds
  | [], [], _ => by simp
  | [], _ :: _, h => h.elim
  | _ :: _, [], h => h.elim
  | x :: xs, d :: ds, h => by
    have := bulk_sum m hm h.2
    have := hm x d h.1
    simp only [List.map_cons, List.sum_cons, List.length_cons, Rows.uptoBulkAll]; omega

/-- What was read as a slice of x's. -/
def SlG {α : Type} (g : α → DataW H → Prop) (xs : List α) (d : DataW H) : Prop := (d = .nil ∧ xs = []) ∨ ∃ es sp, d = .slice es sp ∧ xs.length ≤ maxLen ∧ AllG g xs es

theorem bulk_sl {α : Type} {g : α → DataW H → Prop} {xs : List α} {d : DataW H} (h : SlG g xs d) : xs.length + 1 ≤ Rows.uptoBulk d := by
  rcases h with ⟨rfl, rfl⟩ | ⟨es, sp, rfl, _, h⟩
  · simp [Rows.uptoBulk]
  · have := bulk_len h
    simp only [Rows.uptoBulk]; omega
theorem bulk_slsum {α : Type} {g : α → DataW H → Prop} (m : α → Nat) (hm : ∀ x d, g x d → m x + 1 ≤ Rows.uptoBulk d) {xs : List α} {d : DataW H} (h : SlG g xs d) : (xs.map m).sum + xs.length + 1 ≤ Rows.uptoBulk d := by
  rcases h with ⟨rfl, rfl⟩ | ⟨es, sp, rfl, _, h⟩
  · simp [Rows.uptoBulk]
  · have := bulk_sum m hm h
    simp only [Rows.uptoBulk]; omega

theorem le_sum {l : List Nat} {x : Nat} (h : x ∈ l) : x ≤ l.sum := by
  induction l with
  | nil => cases h
  | cons y l ih =>
    rw [List.sum_cons]
    rcases List.mem_cons.1 h with rfl | h
    · omega
    · have := ih h; omega

end

theorem flatMap_one {α : Type} (f : α → DVal) (l : List α) : l.flatMap (fun x => [f x]) = l.map f := by
  induction l with
  | nil => rfl
  | cons x l ih => simp [ih]

section
variable {P : Program} {H : Type} {w : World}
theorem reads_ints {t e : TypeId} (ht : P.underlying t = some (.slice e)) (he : P.underlying e = some (.int .i64)) : Reads P H w t (List Int) (fun l => [dIs l]) (SlG fun n d => (Lit.int .i64 n).wf = true ∧ d = .lit (.int .i64 n)) := by
  have := reads_slice (H := H) (w := w) ht (reads_int he)
  intro enc base sp held fuel cs d ps h
  obtain ⟨xs, hg, hr⟩ := this enc base sp held fuel cs d ps h
  refine ⟨xs, hg, ?_⟩
  have hr' : RelL w (fun _ => none) [.vslice (xs.flatMap (fun n => [DVal.int .i64 n])) xs.length] cs := hr
  rw [flatMap_one] at hr'; exact hr'
theorem reads_bools {t e : TypeId} (ht : P.underlying t = some (.slice e)) (he : P.underlying e = some .bool) : Reads P H w t (List Bool) (fun l => [.vslice (l.map .bool) l.length]) (SlG fun b d => d = .lit (.bool b)) := by
  have := reads_slice (H := H) (w := w) ht (reads_bool he)
  intro enc base sp held fuel cs d ps h
  obtain ⟨xs, hg, hr⟩ := this enc base sp held fuel cs d ps h
  refine ⟨xs, hg, ?_⟩
  have hr' : RelL w (fun _ => none) [.vslice (xs.flatMap (fun n => [DVal.bool n])) xs.length] cs := hr
  rw [flatMap_one] at hr'; exact hr'
theorem reads_intss {t u e : TypeId} (ht : P.underlying t = some (.slice u)) (hu : P.underlying u = some (.slice e)) (he : P.underlying e = some (.int .i64)) : Reads P H w t (List (List Int)) (fun l => [dIss l]) (SlG (SlG fun n d => (Lit.int .i64 n).wf = true ∧ d = .lit (.int .i64 n))) := by
  have := reads_slice (H := H) (w := w) ht (reads_ints hu he)
  intro enc base sp held fuel cs d ps h
  obtain ⟨xs, hg, hr⟩ := this enc base sp held fuel cs d ps h
  refine ⟨xs, hg, ?_⟩
  have hr' : RelL w (fun _ => none) [.vslice (xs.flatMap (fun n => [dIs n])) xs.length] cs := hr
  rw [flatMap_one] at hr'; exact hr'
end
end Go.Dl
