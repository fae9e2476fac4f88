/- THE LAW LockFree: whatever the arguments are, of bulk at most 1048576, the law returns true and its input reads as it did. Conditions: none but the bound of the second form. -/
import Derived.Test.YtbgelenonjfajaaLFj
import Derived.WalkKit
import Derived.ProofKit
import Derived.OpenShut
import Derived.JoinedCond
set_option linter.unusedSimpArgs false
set_option linter.unusedVariables false
namespace Go.Proofs.Ytbgelenonjfajaa.lockFree
open Go.ChangeShapes Go.WideShapes Go.ChangeAt Go.RowKit Go.Dl

theorem own : ownKnob Try.prog.godebug = none := by kernel_rfl

set_option maxRecDepth 100000 in
theorem contract (H : Type) (enc : TypeId × Value → H) (W : World) (base : Nat) (args : Array Value) (ds gs : List (DataW H)) (before : List MemPlace)
    (hval : ∀ (j : Nat) t v, Try.f3.params[j]? = some t → args[j]? = some v → Value.okWide Try.prog W .any base t v)
    (hW : DataW.Whole enc Try.prog Try.f3.params.toList Rows.lockFreeSpec.vars false W args.toList ds gs before)
    (hk : Rows.uptoSmall H (ds ++ gs) = true) :
    Calls Try.prog 3 args W fun e W' => ∃ v, e = .returned v ∧ Rows.lockFreeSpec.post enc Try.prog Try.f3 false true false false W args v W' := by
  have hW' := hW
  obtain ⟨p, q, hA0, hV, rfl, hfz, hnd⟩ := hW
  have hA : DataW.TrodAll enc Try.prog W 0 (fun _ => true) true Try.f3.params.toList args.toList ds p := hA0
  rw [Try.params3] at hA hval
  obtain ⟨v0, vs0, d0, ds0, p0, q0, hargs, rfl, rfl, h0, r0⟩ := trodAll_cons hA
  obtain ⟨v1, vs1, d1, ds1, p1, q1, rfl, rfl, rfl, h1, r1⟩ := trodAll_cons r0
  obtain ⟨v2, vs2, d2, ds2, p2, q2, rfl, rfl, rfl, h2, r2⟩ := trodAll_cons r1
  obtain ⟨v3, vs3, d3, ds3, p3, q3, rfl, rfl, rfl, h3, r3⟩ := trodAll_cons r2
  obtain ⟨rfl, rfl, rfl⟩ := trodAll_nil r3
  obtain rfl : args = #[v0, v1, v2, v3] := by cases args; simp_all
  obtain ⟨rfl, rfl⟩ := trodVars_none hV
  have hv0 := hval 0 22 _ (by simp) (by simp; rfl)
  have hc0 := cells_slice1 Try.underlying22 hv0
  have hv1 := hval 1 22 _ (by simp) (by simp; rfl)
  have hc1 := cells_slice1 Try.underlying22 hv1
  have hv2 := hval 2 22 _ (by simp) (by simp; rfl)
  have hc2 := cells_slice1 Try.underlying22 hv2
  have hv3 := hval 3 23 _ (by simp) (by simp; rfl)
  have hc3 := cells_slice1 Try.underlying23 hv3
  clear hval hv0 hv1 hv2 hv3
  obtain ⟨x0, g0, s0⟩ := arg_of (reads_intsK Try.underlying22 Try.underlying5) h0 hc0
  obtain ⟨x1, g1, s1⟩ := arg_of (reads_intsK Try.underlying22 Try.underlying5) h1 hc1
  obtain ⟨x2, g2, s2⟩ := arg_of (reads_intsK Try.underlying22 Try.underlying5) h2 hc2
  obtain ⟨x3, g3, s3⟩ := arg_of (reads_intsK Try.underlying23 Try.underlying40) h3 hc3
  have hb := bulk_small hk
  simp only [List.append_nil, Rows.uptoBulkAll] at hb
  have b0 := bulk_sl g0
  have b1 := bulk_sl g1
  have b2 := bulk_sl g2
  have b3 := bulk_sl g3
  have hspec := lockFree_spec G0 (fun g => ⟨g, 0, rfl⟩) (fun _ => none) x0 x1 x2 x3 (slG_u8 g0) (slG_u8 g1) (slG_u8 g2) (slG_u16 g3) (by omega) (by omega) (by omega) (by omega)
  refine ((hspec.mono fun e H' h => h.1).row (vs := #[v0, v1, v2, v3]) (.cons s0 (.cons s1 (.cons s2 (.cons s3 (by simp [RelL]))))) (gok0 _)).mono fun e W' ⟨he, hg, hst⟩ => ?_
  subst he
  exact ⟨_, rfl, post_of_old (pv := []) hW' (fun _ _ _ => (trodAll_cons_mk (shut_bool Try.underlying4 _) trodAll_mk0))
    (fun sp hsp => TrodAll.keep hst (closed_of (ts := [22, 5, 23, 40]) (by kernel_rfl)) (by rw [Try.params3]; decide) hA0 (fun x hx => hsp x (List.mem_append_left _ hx))) (fun _ _ => rfl) rfl
    (hg.frame _) hg.2.1 (ok_one (by kernel_rfl) rfl (okWide_bool_mk Try.underlying4 _))⟩

set_option maxRecDepth 100000 in
theorem lifted (os : Os) (started : os.Started) (H : Type) (enc : TypeId × Value → H) (F : Stop.Interp) :
    ReturnsInHanded {} Try.checked os 3 .any ((Rows.OpenSpec.upto Rows.lockFreeSpec).pre6 enc Try.prog Try.f3 Rows.lockFreeUptoRow.domain false) (((Rows.OpenSpec.upto Rows.lockFreeSpec).at F).post enc Try.prog Try.f3 false true false false) := by
  refine returnsInHanded_of_cond (C := Try.checked) (s := Rows.OpenSpec.upto Rows.lockFreeSpec) (k := Rows.uptoSmall) rfl own started (by kernel_rfl) Try.func3
    (OpenSpec.witness (enc := enc) (C := Try.checked) (s := Rows.OpenSpec.upto Rows.lockFreeSpec) (k := Rows.uptoSmall) rfl false ⟨#[], #[.slice none 0 0, .slice none 0 0, .slice none 0 0, .slice none 0 0], []⟩ 8 (by kernel_rfl) (by kernel_rfl) (by kernel_rfl)
      (x := ([.nil, .nil, .nil, .nil], [], [])) (by kernel_rfl) rfl (by kernel_rfl)) ?_
  intro W base args ds gs before hval hW _ hk _
  exact contract H enc W base args ds gs before hval hW hk

theorem over : Rows.lockFreeUptoRow.holds Try.pinned (Rows.OpenSpec.upto Rows.lockFreeSpec) :=
  OpenClaim.holds_of_cond 3 Try.f3 rfl rfl rfl rfl rfl rfl rfl ⟨rfl, rfl, rfl, rfl, rfl⟩ rfl rfl rfl rfl rfl (by kernel_rfl) Try.func3 (by kernel_rfl)
    (of_decide_eq_true (by kernel_rfl)) (by unfold Func.isWrapper; first | (rw [if_pos (by decide +kernel)]; kernel_rfl) | (rw [if_neg (by decide +kernel)]; exact ⟨rfl, rfl⟩))
    (fun os started H enc _ F => lifted os started H enc F)

theorem proved : Rows.LockFreeUptoSaid :=
  over
end Go.Proofs.Ytbgelenonjfajaa.lockFree
