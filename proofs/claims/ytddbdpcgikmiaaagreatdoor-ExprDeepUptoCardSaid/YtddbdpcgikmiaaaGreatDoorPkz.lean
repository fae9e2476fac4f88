/- THE LAW ExprDeep, the card of its second form: whatever numbers come in, expressions may be nested up to depth 32, and have up to 256 expressions, 8 arguments, 32 associations and 16 choices. Conditions: none but the bound of the second form; what the row lists of the package's variables is tied to the text. -/
import Derived.Test.YtddbdpcgikmiaaaGreatDoorPkj
import Derived.Test.YtddbdpcgikmiaaaGreatDoorCards
import Derived.Test.YtddbdpcgikmiaaaGreatDoorTie
import Derived.WalkKit
import Derived.ProofKit
import Derived.OpenShut
import Derived.JoinedCond
import Derived.Deep.DeepHandedRow
import Derived.Deep.DeepWitnessRowRef
import Derived.Lib.LaidTab
set_option linter.unusedSimpArgs false
set_option linter.unusedVariables false
namespace Go.Proofs.YtddbdpcgikmiaaaGreatDoor.exprDeep
open Go.ChangeShapes Go.WideShapes Go.ChangeAt Go.RowKit Go.Dl

theorem own : ownKnob Tryz.prog.godebug = none := by kernel_rfl

set_option maxRecDepth 100000 in
theorem contract (H : Type) (enc : TypeId × Value → H) (W : World) (base : Nat) (args : Array Value) (ds gs : List (DataW H)) (before : List MemPlace)
    (hval : ∀ (j : Nat) t v, Tryz.f3.params[j]? = some t → args[j]? = some v → Value.okWide Tryz.prog W .any base t v)
    (hW : DataW.Whole enc Tryz.prog Tryz.f3.params.toList Rows.exprDeepSpec.vars false W args.toList ds gs before)
    (hk : Rows.uptoSmall H (ds ++ gs) = true) (hL : laidMetH Tryz.prog Rows.exprDeepUptoRow.laid W) (hsh : W.ShapedOpen Tryz.prog) :
    Calls Tryz.prog 3 args W fun e W' => ∃ v, e = .returned v ∧ Rows.exprDeepSpec.post enc Tryz.prog Tryz.f3 false true false false W args v W' := by
  have hW' := hW
  obtain ⟨p, q, hA0, hV, rfl, hfz, hnd⟩ := hW
  have hA : DataW.TrodAll enc Tryz.prog W 0 (fun _ => true) true Tryz.f3.params.toList args.toList ds p := hA0
  rw [Tryz.params3] at hA hval
  obtain ⟨v0, vs0, d0, ds0, p0, q0, hargs, rfl, rfl, h0, r0⟩ := trodAll_cons hA
  obtain ⟨v1, vs1, d1, ds1, p1, q1, rfl, rfl, rfl, h1, r1⟩ := trodAll_cons r0
  obtain ⟨rfl, rfl, rfl⟩ := trodAll_nil r1
  obtain rfl : args = #[v0, v1] := by cases args; simp_all
  obtain ⟨rfl, rfl⟩ := trodVars_none hV
  have hv0 := hval 0 5 _ (by simp) (by simp; rfl)
  have hc0 := Ah7 Tryz.underlying5 hv0
  have hv1 := hval 1 5 _ (by simp) (by simp; rfl)
  have hc1 := Ah7 Tryz.underlying5 hv1
  clear hval hv0 hv1
  obtain ⟨x0, g0, s0⟩ := Cy3 (Ao7 Tryz.underlying5) h0 hc0
  obtain ⟨x1, g1, s1⟩ := Cy3 (Ao7 Tryz.underlying5) h1 hc1
  have hb := Br4 hk
  simp only [List.append_nil, Rows.uptoBulkAll] at hb
  obtain ⟨G, hG, hGo⟩ := Dy4 hL hsh rfl (by simp [Rows.exprDeepUptoRow])
  have a0 := Cy4 g0.1; have b0 : (0 : Int) ≤ x0 := a0.1; have c0 : x0 ≤ 255 := a0.2; obtain ⟨w0, rfl⟩ := Int.eq_ofNat_of_zero_le b0; have d0 : w0 < 256 := (by omega); have a1 := Cy4 g1.1; have b1 : (0 : Int) ≤ x1 := a1.1; have c1 : x1 ≤ 255 := a1.2; obtain ⟨w1, rfl⟩ := Int.eq_ofNat_of_zero_le b1; have d1 : w1 < 256 := (by omega)
  have hspec := Ak2 hG (fun _ => none) w0 w1 d0 d1
  refine ((hspec.mono fun e H' h => h.1).row (vs := #[v0, v1]) (.cons s0 (.cons s1 (by simp [An]))) hGo).mono fun e W' ⟨he, hg, hst⟩ => ?_
  subst he
  exact ⟨_, rfl, Bg5 (pv := []) hW' (fun _ _ _ => (trodAll_cons_mk (shut_bool Tryz.underlying4 _) trodAll_mk0))
    (fun sp hsp => TrodAll.keep hst (Cj8 (ts := [5]) (by kernel_rfl)) (by rw [Tryz.params3]; decide) hA0 (fun x hx => hsp x (List.mem_append_left _ hx))) (fun _ _ => rfl) rfl
    (hg.frame _) hg.2.1 (ok_one (by kernel_rfl) rfl (okWide_bool_mk Tryz.underlying4 _))⟩

set_option maxRecDepth 100000 in
theorem laid_met (os : Os) : laidMet Tryz.prog Rows.exprDeepUptoRow.laid ((Av8 os).forCall (fun _ _ => 0) ⟨#[], #[.int .u8 0, .int .u8 0], []⟩).memory :=
  Av7 8 (by kernel_rfl) (by kernel_rfl)
theorem reads (os : Os) {H : Type} (enc : TypeId × Value → H) : ∃ places, DataW.whole enc Tryz.prog ((Av8 os).forCall (fun _ _ => 0) ⟨#[], #[.int .u8 0, .int .u8 0], []⟩).memory Tryz.f3.params.toList Rows.exprDeepSpec.vars false (#[.int .u8 0, .int .u8 0] : Array Value).toList 8 = some ([.lit (.int .u8 0), .lit (.int .u8 0)], [], places) :=
  ⟨[], by kernel_rfl⟩

set_option maxRecDepth 100000 in
theorem liftedUpto (os : Os) (started : os.Started) (H : Type) (enc : TypeId × Value → H) (F : Stop.Interp) :
    ReturnsInHanded {} Tryz.checked os 3 .any ((Rows.OpenSpec.upto Rows.exprDeepSpec).preRow enc Tryz.prog Tryz.f3 Rows.exprDeepUptoRow.domain false Rows.exprDeepUptoRow.laid) (((Rows.OpenSpec.upto Rows.exprDeepSpec).at F).post enc Tryz.prog Tryz.f3 false true false false) := by
  obtain ⟨places, hx⟩ := reads os enc
  refine returnsInHanded_of_row (C := Tryz.checked) (s := Rows.OpenSpec.upto Rows.exprDeepSpec) own started (by kernel_rfl) Tryz.func3
    (witness_row_atRef (enc := enc) (C := Tryz.checked) false (Av8 os) #[.int .u8 0, .int .u8 0] rfl (by kernel_rfl) (by kernel_rfl) (by kernel_rfl)
      (OpenSpec.preRow_of_cond 8 hx (by kernel_rfl) (fun k hk => by cases hk; kernel_rfl) (by kernel_rfl) (laid_met os))) ?_
  intro W base args ds gs before hval hW _ hcond _ hL hsh _
  exact contract H enc W base args ds gs before hval hW (hcond _ rfl) hL hsh

set_option maxHeartbeats 400000000 in
theorem saidUpto : Rows.ExprDeepUptoSaid :=
  OpenClaim.holds_of_cond 3 Tryz.f3 rfl rfl rfl rfl rfl rfl rfl ⟨rfl, rfl, rfl, rfl, rfl⟩ rfl rfl rfl rfl rfl (by as_aux_lemma => kernel_rfl) Tryz.func3 (by
      unfold joinedFacts
      simp only [Bool.and_eq_true]
      repeat' apply And.intro
      all_goals as_aux_lemma => kernel_rfl)
    (of_decide_eq_true (by as_aux_lemma => kernel_rfl)) (by unfold Func.isWrapper; first | (rw [if_pos (by decide +kernel)]; kernel_rfl) | (rw [if_neg (by decide +kernel)]; exact ⟨rfl, rfl⟩))
    (fun os started H enc _ F => by rw [OpenClaim.pre_eq_preRow]; exact liftedUpto os started H enc F)

/-- No parameter wants a stand-in; the program's own looks are off. -/
theorem Co6 (f : FuncId) (fn : Func) (hf : Tryz.pinned.checked.prog.funcNamed "ceiling/ceilinglaw03.ExprDeep" = some f) (hfn : Tryz.pinned.checked.prog.funcs[f]? = some fn) :
    true = Tryz.pinned.checked.prog.looks [] ∧ ∀ (j : Nat) t, fn.params[j]? = some t → Tryz.pinned.checked.prog.wantsStandIn t = false := by
  obtain rfl : f = 3 := Option.some.inj ((show Tryz.prog.funcNamed "ceiling/ceilinglaw03.ExprDeep" = some 3 by kernel_rfl).symm.trans hf) |>.symm
  obtain rfl : fn = Tryz.f3 := (Option.some.inj (Tryz.func3.symm.trans hfn)).symm
  refine ⟨by kernel_rfl, fun j t ht => ?_⟩
  rw [Tryz.params3] at ht
  have hm : t = 5 := by
    have := Array.mem_of_getElem? ht
    simp at this; omega
  subst hm
  exact (show Tryz.prog.wantsStandIn 5 = false by kernel_rfl)

set_option maxHeartbeats 400000000 in
theorem proved : Rows.ExprDeepUptoCardSaid :=
  Claim7.holds_tied_plain_at .later [] _ _ _ _ saidUpto (fun _ h => by cases h) (by as_aux_lemma => kernel_rfl) (fun _ h => by cases h) exprDeepUpto_row_tie rfl ⟨rfl, rfl⟩ (by as_aux_lemma => kernel_rfl) rfl Co6 (by as_aux_lemma => kernel_rfl)
end Go.Proofs.YtddbdpcgikmiaaaGreatDoor.exprDeep
