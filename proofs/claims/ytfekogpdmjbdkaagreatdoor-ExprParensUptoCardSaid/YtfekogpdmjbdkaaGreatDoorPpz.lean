/- THE LAW ExprParens, the card of its second form: whatever valid expression and tokens come in (at most 50), parentheses around the expression change nothing, nor do tokens behind it that begin with one that cannot go on with an expression. Conditions: none but the bound of the second form; what the row lists of the package's variables is tied to the text. -/
import Derived.Test.YtfekogpdmjbdkaaGreatDoorPpl
import Derived.Test.YtfekogpdmjbdkaaGreatDoorCards
import Derived.Test.YtfekogpdmjbdkaaGreatDoorTie
import Derived.WalkKit
import Derived.ProofKit
import Derived.OpenShut
import Derived.JoinedCond
import Derived.Deep.DeepHandedRow
import Derived.Deep.DeepWitnessRowRef
import Derived.Lib.LaidTab
set_option linter.unusedSimpArgs false
set_option linter.unusedVariables false
namespace Go.Proofs.YtfekogpdmjbdkaaGreatDoor.exprParens
open Go.ChangeShapes Go.WideShapes Go.ChangeAt Go.RowKit Go.Dl

theorem own : ownKnob Tryz.prog.godebug = none := by kernel_rfl

set_option maxRecDepth 100000 in
theorem contract (H : Type) (enc : TypeId × Value → H) (W : World) (base : Nat) (args : Array Value) (ds gs : List (DataW H)) (before : List MemPlace)
    (hval : ∀ (j : Nat) t v, Tryz.f6.params[j]? = some t → args[j]? = some v → Value.okWide Tryz.prog W .any base t v)
    (hW : DataW.Whole enc Tryz.prog Tryz.f6.params.toList Rows.exprParensSpec.vars false W args.toList ds gs before)
    (hk : Rows.uptoSmall H (ds ++ gs) = true) (hL : laidMetH Tryz.prog Rows.exprParensUptoRow.laid W) (hsh : W.ShapedOpen Tryz.prog) :
    Calls Tryz.prog 6 args W fun e W' => ∃ v, e = .returned v ∧ Rows.exprParensSpec.post enc Tryz.prog Tryz.f6 false true false false W args v W' := by
  have hW' := hW
  obtain ⟨p, q, hA0, hV, rfl, hfz, hnd⟩ := hW
  have hA : DataW.TrodAll enc Tryz.prog W 0 (fun _ => true) true Tryz.f6.params.toList args.toList ds p := hA0
  rw [Tryz.params6] at hA hval
  obtain ⟨v0, vs0, d0, ds0, p0, q0, hargs, rfl, rfl, h0, r0⟩ := trodAll_cons hA
  obtain ⟨v1, vs1, d1, ds1, p1, q1, rfl, rfl, rfl, h1, r1⟩ := trodAll_cons r0
  obtain ⟨v2, vs2, d2, ds2, p2, q2, rfl, rfl, rfl, h2, r2⟩ := trodAll_cons r1
  obtain ⟨rfl, rfl, rfl⟩ := trodAll_nil r2
  obtain rfl : args = #[v0, v1, v2] := by cases args; simp_all
  obtain ⟨rfl, rfl⟩ := trodVars_none hV
  have hv0 := hval 0 27 _ (by simp) (by simp; rfl)
  have hc0 := agg_of Tryz.underlying27 hv0
  have hv1 := hval 1 28 _ (by simp) (by simp; rfl)
  have hc1 := cells_slice1 Tryz.underlying28 hv1
  have hv2 := hval 2 5 _ (by simp) (by simp; rfl)
  have hc2 := cells_int1 Tryz.underlying5 hv2
  clear hval hv0 hv1 hv2
  obtain ⟨x0, g0, s0⟩ := arg_agg (reads_ex) h0 hc0
  obtain ⟨x1, g1, s1⟩ := arg_of (reads_toks) h1 hc1
  obtain ⟨x2, g2, s2⟩ := arg_of (reads_int Tryz.underlying5) h2 hc2
  have hb := bulk_small hk
  simp only [List.append_nil, Rows.uptoBulkAll] at hb
  have b1 := bulk_sl g1
  obtain ⟨G, hG, hGo⟩ := gx_of hL hsh rfl (by simp [Rows.exprParensUptoRow])
  have f0 : FitE x0 := ⟨by have := g0.1; omega, g0.2⟩; have o1 := wf_int g2.1; have o2 : (0 : Int) ≤ x2 := o1.1; have o3 : x2 ≤ 255 := o1.2; obtain ⟨w, rfl⟩ := Int.eq_ofNat_of_zero_le o2; have hw : w < 256 := by omega
  have hspec := exprParens_spec hG (fun _ => none) x0 x1 w f0 (toks_g g1) hw
  refine ((hspec.mono fun e H' h => h.1).row (vs := #[v0, v1, v2]) (.cons s0 (.cons s1 (.cons s2 (by simp [RelL])))) hGo).mono fun e W' ⟨he, hg, hst⟩ => ?_
  subst he
  exact ⟨_, rfl, post_of_old (pv := []) hW' (fun _ _ _ => (trodAll_cons_mk (shut_bool Tryz.underlying4 _) trodAll_mk0))
    (fun sp hsp => TrodAll.keep hst (closed_of (ts := [27, 24, 25, 47, 40, 71, 69, 22, 23, 2, 9, 3, 28, 52, 50, 5]) (by kernel_rfl)) (by rw [Tryz.params6]; decide) hA0 (fun x hx => hsp x (List.mem_append_left _ hx))) (fun _ _ => rfl) rfl
    (hg.frame _) hg.2.1 (ok_one (by kernel_rfl) rfl (okWide_bool_mk Tryz.underlying4 _))⟩

set_option maxRecDepth 100000 in
theorem laid_met (os : Os) : laidMet Tryz.prog Rows.exprParensUptoRow.laid ((world03 os).forCall (fun _ _ => 0) ⟨#[], #[.agg zExpr, .slice none 0 0, .int .u8 0], []⟩).memory :=
  laidMet_fast 8 (by kernel_rfl) (by kernel_rfl)
theorem reads (os : Os) {H : Type} (enc : TypeId × Value → H) : ∃ places, DataW.whole enc Tryz.prog ((world03 os).forCall (fun _ _ => 0) ⟨#[], #[.agg zExpr, .slice none 0 0, .int .u8 0], []⟩).memory Tryz.f6.params.toList Rows.exprParensSpec.vars false (#[.agg zExpr, .slice none 0 0, .int .u8 0] : Array Value).toList 8 = some ([.agg zExprD, .nil, .lit (.int .u8 0)], [], places) :=
  ⟨[], by kernel_rfl⟩

set_option maxRecDepth 100000 in
theorem liftedUpto (os : Os) (started : os.Started) (H : Type) (enc : TypeId × Value → H) (F : Stop.Interp) :
    ReturnsInHanded {} Tryz.checked os 6 .any ((Rows.OpenSpec.upto Rows.exprParensSpec).preRow enc Tryz.prog Tryz.f6 Rows.exprParensUptoRow.domain false Rows.exprParensUptoRow.laid) (((Rows.OpenSpec.upto Rows.exprParensSpec).at F).post enc Tryz.prog Tryz.f6 false true false false) := by
  obtain ⟨places, hx⟩ := reads os enc
  refine returnsInHanded_of_row (C := Tryz.checked) (s := Rows.OpenSpec.upto Rows.exprParensSpec) own started (by kernel_rfl) Tryz.func6
    (witness_row_atRef (enc := enc) (C := Tryz.checked) false (world03 os) #[.agg zExpr, .slice none 0 0, .int .u8 0] rfl (by kernel_rfl) (by kernel_rfl) (by kernel_rfl)
      (OpenSpec.preRow_of_cond 8 hx (by kernel_rfl) (fun k hk => by cases hk; kernel_rfl) (by kernel_rfl) (laid_met os))) ?_
  intro W base args ds gs before hval hW _ hcond _ hL hsh _
  exact contract H enc W base args ds gs before hval hW (hcond _ rfl) hL hsh

theorem saidUpto : Rows.ExprParensUptoSaid :=
  OpenClaim.holds_of_cond 6 Tryz.f6 rfl rfl rfl rfl rfl rfl rfl ⟨rfl, rfl, rfl, rfl, rfl⟩ rfl rfl rfl rfl rfl (by kernel_rfl) Tryz.func6 (by kernel_rfl)
    (of_decide_eq_true (by kernel_rfl)) (by unfold Func.isWrapper; first | (rw [if_pos (by decide +kernel)]; kernel_rfl) | (rw [if_neg (by decide +kernel)]; exact ⟨rfl, rfl⟩))
    (fun os started H enc _ F => by rw [OpenClaim.pre_eq_preRow]; exact liftedUpto os started H enc F)

/-- No parameter wants a stand-in; the program's own looks are off. -/
theorem plain (f : FuncId) (fn : Func) (hf : Tryz.pinned.checked.prog.funcNamed "ceiling/ceilinglaw03.ExprParens" = some f) (hfn : Tryz.pinned.checked.prog.funcs[f]? = some fn) :
    true = Tryz.pinned.checked.prog.looks [] ∧ ∀ (j : Nat) t, fn.params[j]? = some t → Tryz.pinned.checked.prog.wantsStandIn t = false := by
  obtain rfl : f = 6 := Option.some.inj ((show Tryz.prog.funcNamed "ceiling/ceilinglaw03.ExprParens" = some 6 by kernel_rfl).symm.trans hf) |>.symm
  obtain rfl : fn = Tryz.f6 := (Option.some.inj (Tryz.func6.symm.trans hfn)).symm
  refine ⟨by kernel_rfl, fun j t ht => ?_⟩
  rw [Tryz.params6] at ht
  have hm : t = 27 ∨ t = 28 ∨ t = 5 := by
    have := Array.mem_of_getElem? ht
    simpa using this
  rcases hm with rfl | rfl | rfl
  · exact (show Tryz.prog.wantsStandIn 27 = false by kernel_rfl)
  · exact (show Tryz.prog.wantsStandIn 28 = false by kernel_rfl)
  · exact (show Tryz.prog.wantsStandIn 5 = false by kernel_rfl)

theorem proved : Rows.ExprParensUptoCardSaid :=
  Claim7.holds_tied_plain_at .later [] _ _ _ _ saidUpto (fun _ h => by cases h) (by kernel_rfl) (fun _ h => by cases h) exprParensUpto_row_tie rfl ⟨rfl, rfl⟩ (by kernel_rfl) rfl plain (by kernel_rfl)
end Go.Proofs.YtfekogpdmjbdkaaGreatDoor.exprParens
