/-
  THE DATA LEVEL, PART X: plain data seen at this level; small words.
-/
import Derived.Test.YtimnmempnhjbfaaDw
set_option linter.unusedSimpArgs false
set_option linter.unusedVariables false
namespace Go.Dl
open Go

theorem wrap64_id {n : Int} (h1 : -9223372036854775808 ≤ n) (h2 : n ≤ 9223372036854775807) : IntKind.wrap .i64 n = n := IntWalk.i64_in n ⟨h1, h2⟩

/-- An int. -/
abbrev dI (n : Int) : DVal := .int .i64 n
/-- A list of ints, of lists of ints, as slices in memory that lasts. -/
def dIs (l : List Int) : DVal := .vslice (l.map dI) l.length
def dIss (q : List (List Int)) : DVal := .vslice (q.map dIs) q.length

/-- A loop, its state told by an index. -/
theorem DLoop.run {G : Nat → DVal} {body : (DExit → DS → Prop) → DK} {Q : DExit → DS → Prop} {s : DS} {ι : Type} (I : ι → (Nat → DVal) → DHeap → Prop) (μ : ι → Nat) (i : ι) (h0 : I i s.env s.heap)
    (hr : ∀ i env heap, I i env heap → body (DSeqQ (fun s1 => ∃ j s2, GhostS G s1 s2 ∧ I j s2.env s2.heap ∧ μ j < μ i) Q) ⟨env, heap⟩) : DLoop G body Q s :=
  ⟨ι, fun i s => I i s.env s.heap, μ, ⟨i, s, GhostS.refl s, h0⟩, fun i s h => hr i s.env s.heap h⟩

theorem again {G : Nat → DVal} {ι : Type} {I : ι → (Nat → DVal) → DHeap → Prop} {μ : ι → Nat} {s : DS} {m : Nat} (j : ι) (h : I j s.env s.heap) (hm : μ j < m) : ∃ j s2, GhostS G s s2 ∧ I j s2.env s2.heap ∧ μ j < m := ⟨j, s, GhostS.refl s, h, hm⟩

theorem getElem_map {α : Type} (f : α → DVal) (l : List α) (i : Nat) (h : i < l.length) : (l.map f)[i]? = some (f l[i]) := by simp [h]

theorem and_of {a b : Prop} (h : a) : (a ∧ b) = b := by simp [h]
theorem dec_true {p : Prop} [Decidable p] (h : p) : decide p = true := by simp [h]
theorem dec_false {p : Prop} [Decidable p] (h : ¬ p) : decide p = false := by simp [h]
theorem upd_ne {α : Type} (f : Nat → α) (i j : Nat) (v : α) (h : j ≠ i) : upd f i v j = f j := by simp [upd, h]

end Go.Dl
