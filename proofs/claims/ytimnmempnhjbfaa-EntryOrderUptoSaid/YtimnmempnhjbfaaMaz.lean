/- THE LAW EntryOrder: whatever the number of entries and the script are, of bulk at most 1048576, the law returns true and its input reads as it did. Conditions: none but the bound of the second form. -/
import Derived.Test.YtimnmempnhjbfaaMah
import Derived.WalkKit
import Derived.ProofKit
import Derived.OpenShut
import Derived.JoinedCond
set_option linter.unusedSimpArgs false
set_option linter.unusedVariables false
namespace Go.Proofs.Ytimnmempnhjbfaa.entryOrder
open Go.ChangeShapes Go.WideShapes Go.ChangeAt Go.RowKit Go.Dl

theorem own : ownKnob Try.prog.godebug = none := by kernel_rfl

set_option maxRecDepth 100000 in
theorem contract (H : Type) (enc : TypeId × Value → H) (W : World) (base : Nat) (args : Array Value) (ds gs : List (DataW H)) (before : List MemPlace)
    (hval : ∀ (j : Nat) t v, Try.f6.params[j]? = some t → args[j]? = some v → Value.okWide Try.prog W .any base t v)
    (hW : DataW.Whole enc Try.prog Try.f6.params.toList Rows.entryOrderSpec.vars false W args.toList ds gs before)
    (hk : Rows.uptoSmall H (ds ++ gs) = true) :
    Calls Try.prog 6 args W fun e W' => ∃ v, e = .returned v ∧ Rows.entryOrderSpec.post enc Try.prog Try.f6 false true false false W args v W' := by
  have hW' := hW
  obtain ⟨p, q, hA0, hV, rfl, hfz, hnd⟩ := hW
  have hA : DataW.TrodAll enc Try.prog W 0 (fun _ => true) true Try.f6.params.toList args.toList ds p := hA0
  rw [Try.params6] at hA hval
  obtain ⟨v0, vs0, d0, ds0, p0, q0, hargs, rfl, rfl, h0, r0⟩ := trodAll_cons hA
  obtain ⟨v1, vs1, d1, ds1, p1, q1, rfl, rfl, rfl, h1, r1⟩ := trodAll_cons r0
  obtain ⟨rfl, rfl, rfl⟩ := trodAll_nil r1
  obtain rfl : args = #[v0, v1] := by cases args; simp_all
  obtain ⟨rfl, rfl⟩ := trodVars_none hV
  have hv0 := hval 0 5 _ (by simp) (by simp; rfl)
  have hc0 := cells_int1 Try.underlying5 hv0
  have hv1 := hval 1 52 _ (by simp) (by simp; rfl)
  have hc1 := cells_slice1 Try.underlying52 hv1
  clear hval hv0 hv1
  obtain ⟨x0, g0, s0⟩ := arg_of (reads_int Try.underlying5) h0 hc0
  obtain ⟨x1, g1, s1⟩ := arg_of (reads_intsK Try.underlying52 Try.underlying54) h1 hc1
  have hb := bulk_small hk
  simp only [List.append_nil, Rows.uptoBulkAll] at hb
  have b1 := bulk_sl g1
  have w0 : 0 ≤ x0 ∧ x0 ≤ 255 := wf_int g0.1
  have w1 : ∀ x ∈ x1, 0 ≤ x ∧ x ≤ 65535 := slG_wf g1
  have hspec := entryOrder_spec G0 (fun g => ⟨g, 0, rfl⟩) x0 ⟨w0.1, by have := w0.2; omega⟩ x1 (fun x hx => ⟨(w1 x hx).1, by have := (w1 x hx).2; omega⟩) (by omega) (fun _ => none)
  refine ((hspec.mono fun e H' h => h.1).row (vs := #[v0, v1]) (.cons s0 (.cons s1 (by simp [RelL]))) (gok0 _)).mono fun e W' ⟨he, hg, hst⟩ => ?_
  subst he
  exact ⟨_, rfl, post_of_same (pv := []) hW' (fun _ _ _ => (trodAll_cons_mk (shut_bool Try.underlying4 _) trodAll_mk0))
    (fun sp hsp => TrodAll.keep hst (closed_of (ts := [5, 52, 54]) (by kernel_rfl)) (by rw [Try.params6]; decide) hA0 (fun x hx => hsp x (List.mem_append_left _ hx))) (fun _ _ => rfl) rfl
    (hg.frame _) hg.2.1 (ok_one (by kernel_rfl) rfl (okWide_bool_mk Try.underlying4 _))⟩

set_option maxRecDepth 100000 in
theorem lifted (os : Os) (started : os.Started) (H : Type) (enc : TypeId × Value → H) (F : Stop.Interp) :
    ReturnsInHanded {} Try.checked os 6 .any ((Rows.OpenSpec.upto Rows.entryOrderSpec).pre6 enc Try.prog Try.f6 Rows.entryOrderUptoRow.domain false) (((Rows.OpenSpec.upto Rows.entryOrderSpec).at F).post enc Try.prog Try.f6 false true false false) := by
  refine returnsInHanded_of_cond (C := Try.checked) (s := Rows.OpenSpec.upto Rows.entryOrderSpec) (k := Rows.uptoSmall) rfl own started (by kernel_rfl) Try.func6
    (OpenSpec.witness (enc := enc) (C := Try.checked) (s := Rows.OpenSpec.upto Rows.entryOrderSpec) (k := Rows.uptoSmall) rfl false ⟨#[], #[.int .u8 0, .slice none 0 0], []⟩ 8 (by kernel_rfl) (by kernel_rfl) (by kernel_rfl)
      (x := ([.lit (.int .u8 0), .nil], [], [])) (by kernel_rfl) rfl (by kernel_rfl)) ?_
  intro W base args ds gs before hval hW _ hk _
  exact contract H enc W base args ds gs before hval hW hk

theorem over : Rows.entryOrderUptoRow.holds Try.pinned (Rows.OpenSpec.upto Rows.entryOrderSpec) :=
  OpenClaim.holds_of_cond 6 Try.f6 rfl rfl rfl rfl rfl rfl rfl ⟨rfl, rfl, rfl, rfl, rfl⟩ rfl rfl rfl rfl rfl (by kernel_rfl) Try.func6 (by kernel_rfl)
    (of_decide_eq_true (by kernel_rfl)) (by unfold Func.isWrapper; first | (rw [if_pos (by decide +kernel)]; kernel_rfl) | (rw [if_neg (by decide +kernel)]; exact ⟨rfl, rfl⟩))
    (fun os started H enc _ F => lifted os started H enc F)

theorem proved : Rows.EntryOrderUptoSaid :=
  over
end Go.Proofs.Ytimnmempnhjbfaa.entryOrder
