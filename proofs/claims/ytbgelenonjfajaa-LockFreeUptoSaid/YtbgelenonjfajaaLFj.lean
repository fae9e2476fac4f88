/- The data level and the contracts of the functions that are reached (part 10). -/
import Derived.Test.YtbgelenonjfajaaLFi
set_option linter.unusedSimpArgs false
set_option linter.unusedVariables false
-- LockFree: what was read lies in the range of its kind.
namespace Go.Dl
open Go Go.RowKit Go.Proofs Go.Proofs.Ytbgelenonjfajaa
theorem allG_rng {H : Type} {k : IntKind} : ∀ {xs : List Int} {es : List (DataW H)}, AllG (fun (n : Int) (d : DataW H) => (Lit.int k n).wf = true ∧ d = .lit (.int k n)) xs es → ∀ x ∈ xs, k.min ≤ x ∧ x ≤ k.max
  | [], _, _ => fun x hx => by cases hx
  | y :: ys, [], h => by cases h
  | y :: ys, d :: ds, h => fun x hx => by
    rcases List.mem_cons.1 hx with rfl | hx
    · have := h.1.1
      simp only [Lit.wf, Bool.and_eq_true, decide_eq_true_eq] at this
      exact this
    · exact allG_rng h.2 x hx
theorem slG_rng {H : Type} {k : IntKind} {xs : List Int} {d : DataW H} (h : SlG (fun (n : Int) (d : DataW H) => (Lit.int k n).wf = true ∧ d = .lit (.int k n)) xs d) : ∀ x ∈ xs, k.min ≤ x ∧ x ≤ k.max := by
  rcases h with ⟨_, rfl⟩ | ⟨es, sp, rfl, _, h⟩
  · intro x hx; cases hx
  · exact allG_rng h
theorem slG_u8 {H : Type} {xs : List Int} {d : DataW H} (h : SlG (fun (n : Int) (d : DataW H) => (Lit.int .u8 n).wf = true ∧ d = .lit (.int .u8 n)) xs d) : ∀ x ∈ xs, 0 ≤ x ∧ x < 256 := fun x hx => by
  have h1 := slG_rng h x hx
  have h2 : IntKind.u8.min = 0 := by decide
  have h3 : IntKind.u8.max = 255 := by decide
  omega
theorem slG_u16 {H : Type} {xs : List Int} {d : DataW H} (h : SlG (fun (n : Int) (d : DataW H) => (Lit.int .u16 n).wf = true ∧ d = .lit (.int .u16 n)) xs d) : ∀ x ∈ xs, 0 ≤ x ∧ x < 65536 := fun x hx => by
  have h1 := slG_rng h x hx
  have h2 : IntKind.u16.min = 0 := by decide
  have h3 : IntKind.u16.max = 65535 := by decide
  omega
end Go.Dl
