/- THE LAW ExprChains, the card of its second form: whatever two operators and number of operands come in, operands with one operator between them are read from the left; a relation does not chain, and a second logical operator ends an expression. Conditions: none but the bound of the second form; what the row lists of the package's variables is tied to the text. -/
import Derived.Test.YtkieniphnglaaaaGreatDoorPcj
import Derived.Test.YtkieniphnglaaaaGreatDoorCards
import Derived.Test.YtkieniphnglaaaaGreatDoorTie
import Derived.WalkKit
import Derived.ProofKit
import Derived.OpenShut
import Derived.JoinedCond
import Derived.Deep.DeepHandedRow
import Derived.Deep.DeepWitnessRowRef
import Derived.Lib.LaidTab
set_option linter.unusedSimpArgs false
set_option linter.unusedVariables false
namespace Go.Proofs.YtkieniphnglaaaaGreatDoor.exprChains
open Go.ChangeShapes Go.WideShapes Go.ChangeAt Go.RowKit Go.Dl

theorem own : ownKnob Tryz.prog.godebug = none := by kernel_rfl

set_option maxRecDepth 100000 in
theorem contract (H : Type) (enc : TypeId × Value → H) (W : World) (base : Nat) (args : Array Value) (ds gs : List (DataW H)) (before : List MemPlace)
    (hval : ∀ (j : Nat) t v, Tryz.f3.params[j]? = some t → args[j]? = some v → Value.okWide Tryz.prog W .any base t v)
    (hW : DataW.Whole enc Tryz.prog Tryz.f3.params.toList Rows.exprChainsSpec.vars false W args.toList ds gs before)
    (hk : Rows.uptoSmall H (ds ++ gs) = true) (hL : laidMetH Tryz.prog Rows.exprChainsUptoRow.laid W) (hsh : W.ShapedOpen Tryz.prog) :
    Calls Tryz.prog 3 args W fun e W' => ∃ v, e = .returned v ∧ Rows.exprChainsSpec.post enc Tryz.prog Tryz.f3 false true false false W args v W' := by
  have hW' := hW
  obtain ⟨p, q, hA0, hV, rfl, hfz, hnd⟩ := hW
  have hA : DataW.TrodAll enc Tryz.prog W 0 (fun _ => true) true Tryz.f3.params.toList args.toList ds p := hA0
  rw [Tryz.params3] at hA hval
  obtain ⟨v0, vs0, d0, ds0, p0, q0, hargs, rfl, rfl, h0, r0⟩ := trodAll_cons hA
  obtain ⟨v1, vs1, d1, ds1, p1, q1, rfl, rfl, rfl, h1, r1⟩ := trodAll_cons r0
  obtain ⟨v2, vs2, d2, ds2, p2, q2, rfl, rfl, rfl, h2, r2⟩ := trodAll_cons r1
  obtain ⟨rfl, rfl, rfl⟩ := trodAll_nil r2
  obtain rfl : args = #[v0, v1, v2] := by cases args; simp_all
  obtain ⟨rfl, rfl⟩ := trodVars_none hV
  have hv0 := hval 0 5 _ (by simp) (by simp; rfl)
  have hc0 := Tm Tryz.underlying5 hv0
  have hv1 := hval 1 5 _ (by simp) (by simp; rfl)
  have hc1 := Tm Tryz.underlying5 hv1
  have hv2 := hval 2 5 _ (by simp) (by simp; rfl)
  have hc2 := Tm Tryz.underlying5 hv2
  clear hval hv0 hv1 hv2
  obtain ⟨x0, g0, s0⟩ := Bq5 (Xn Tryz.underlying5) h0 hc0
  obtain ⟨x1, g1, s1⟩ := Bq5 (Xn Tryz.underlying5) h1 hc1
  obtain ⟨x2, g2, s2⟩ := Bq5 (Xn Tryz.underlying5) h2 hc2
  have hb := Bq6 hk
  simp only [List.append_nil, Rows.uptoBulkAll] at hb
  obtain ⟨G, hG, hGo⟩ := Dv6 hL hsh rfl (by simp [Rows.exprChainsUptoRow])
  have a0 := Bq7 g0.1; have b0 : (0 : Int) ≤ x0 := a0.1; have c0 : x0 ≤ 255 := a0.2; obtain ⟨w0, rfl⟩ := Int.eq_ofNat_of_zero_le b0; have d0 : w0 < 256 := (by omega); have a1 := Bq7 g1.1; have b1 : (0 : Int) ≤ x1 := a1.1; have c1 : x1 ≤ 255 := a1.2; obtain ⟨w1, rfl⟩ := Int.eq_ofNat_of_zero_le b1; have d1 : w1 < 256 := (by omega); have a2 := Bq7 g2.1; have b2 : (0 : Int) ≤ x2 := a2.1; have c2 : x2 ≤ 255 := a2.2; obtain ⟨w2, rfl⟩ := Int.eq_ofNat_of_zero_le b2; have d2 : w2 < 256 := (by omega)
  have hspec := Yz hG (fun _ => none) w0 w1 w2 d0 d1 d2
  refine ((hspec.mono fun e H' h => h.1).row (vs := #[v0, v1, v2]) (.cons s0 (.cons s1 (.cons s2 (by simp [Ap])))) hGo).mono fun e W' ⟨he, hg, hst⟩ => ?_
  subst he
  exact ⟨_, rfl, Bf3 (pv := []) hW' (fun _ _ _ => (trodAll_cons_mk (shut_bool Tryz.underlying4 _) trodAll_mk0))
    (fun sp hsp => TrodAll.keep hst (Ci4 (ts := [5]) (by kernel_rfl)) (by rw [Tryz.params3]; decide) hA0 (fun x hx => hsp x (List.mem_append_left _ hx))) (fun _ _ => rfl) rfl
    (hg.frame _) hg.2.1 (ok_one (by kernel_rfl) rfl (okWide_bool_mk Tryz.underlying4 _))⟩

set_option maxRecDepth 100000 in
theorem laid_met (os : Os) : laidMet Tryz.prog Rows.exprChainsUptoRow.laid ((Av4 os).forCall (fun _ _ => 0) ⟨#[], #[.int .u8 0, .int .u8 0, .int .u8 0], []⟩).memory :=
  Av3 8 (by kernel_rfl) (by kernel_rfl)
theorem reads (os : Os) {H : Type} (enc : TypeId × Value → H) : ∃ places, DataW.whole enc Tryz.prog ((Av4 os).forCall (fun _ _ => 0) ⟨#[], #[.int .u8 0, .int .u8 0, .int .u8 0], []⟩).memory Tryz.f3.params.toList Rows.exprChainsSpec.vars false (#[.int .u8 0, .int .u8 0, .int .u8 0] : Array Value).toList 8 = some ([.lit (.int .u8 0), .lit (.int .u8 0), .lit (.int .u8 0)], [], places) :=
  ⟨[], by kernel_rfl⟩

set_option maxRecDepth 100000 in
theorem liftedUpto (os : Os) (started : os.Started) (H : Type) (enc : TypeId × Value → H) (F : Stop.Interp) :
    ReturnsInHanded {} Tryz.checked os 3 .any ((Rows.OpenSpec.upto Rows.exprChainsSpec).preRow enc Tryz.prog Tryz.f3 Rows.exprChainsUptoRow.domain false Rows.exprChainsUptoRow.laid) (((Rows.OpenSpec.upto Rows.exprChainsSpec).at F).post enc Tryz.prog Tryz.f3 false true false false) := by
  obtain ⟨places, hx⟩ := reads os enc
  refine returnsInHanded_of_row (C := Tryz.checked) (s := Rows.OpenSpec.upto Rows.exprChainsSpec) own started (by kernel_rfl) Tryz.func3
    (witness_row_atRef (enc := enc) (C := Tryz.checked) false (Av4 os) #[.int .u8 0, .int .u8 0, .int .u8 0] rfl (by kernel_rfl) (by kernel_rfl) (by kernel_rfl)
      (OpenSpec.preRow_of_cond 8 hx (by kernel_rfl) (fun k hk => by cases hk; kernel_rfl) (by kernel_rfl) (laid_met os))) ?_
  intro W base args ds gs before hval hW _ hcond _ hL hsh _
  exact contract H enc W base args ds gs before hval hW (hcond _ rfl) hL hsh

set_option maxHeartbeats 400000000 in
theorem saidUpto : Rows.ExprChainsUptoSaid :=
  OpenClaim.holds_of_cond 3 Tryz.f3 rfl rfl rfl rfl rfl rfl rfl ⟨rfl, rfl, rfl, rfl, rfl⟩ rfl rfl rfl rfl rfl (by as_aux_lemma => kernel_rfl) Tryz.func3 (by
      unfold joinedFacts
      simp only [Bool.and_eq_true]
      repeat' apply And.intro
      all_goals as_aux_lemma => kernel_rfl)
    (of_decide_eq_true (by as_aux_lemma => kernel_rfl)) (by unfold Func.isWrapper; first | (rw [if_pos (by decide +kernel)]; kernel_rfl) | (rw [if_neg (by decide +kernel)]; exact ⟨rfl, rfl⟩))
    (fun os started H enc _ F => by rw [OpenClaim.pre_eq_preRow]; exact liftedUpto os started H enc F)

/-- No parameter wants a stand-in; the program's own looks are off. -/
theorem Cn5 (f : FuncId) (fn : Func) (hf : Tryz.pinned.checked.prog.funcNamed "ceiling/ceilinglaw03.ExprChains" = some f) (hfn : Tryz.pinned.checked.prog.funcs[f]? = some fn) :
    true = Tryz.pinned.checked.prog.looks [] ∧ ∀ (j : Nat) t, fn.params[j]? = some t → Tryz.pinned.checked.prog.wantsStandIn t = false := by
  obtain rfl : f = 3 := Option.some.inj ((show Tryz.prog.funcNamed "ceiling/ceilinglaw03.ExprChains" = some 3 by kernel_rfl).symm.trans hf) |>.symm
  obtain rfl : fn = Tryz.f3 := (Option.some.inj (Tryz.func3.symm.trans hfn)).symm
  refine ⟨by kernel_rfl, fun j t ht => ?_⟩
  rw [Tryz.params3] at ht
  have hm : t = 5 := by
    have := Array.mem_of_getElem? ht
    simp at this; omega
  subst hm
  exact (show Tryz.prog.wantsStandIn 5 = false by kernel_rfl)

set_option maxHeartbeats 400000000 in
theorem proved : Rows.ExprChainsUptoCardSaid :=
  Claim7.holds_tied_plain_at .later [] _ _ _ _ saidUpto (fun _ h => by cases h) (by as_aux_lemma => kernel_rfl) (fun _ h => by cases h) exprChainsUpto_row_tie rfl ⟨rfl, rfl⟩ (by as_aux_lemma => kernel_rfl) rfl Cn5 (by as_aux_lemma => kernel_rfl)
end Go.Proofs.YtkieniphnglaaaaGreatDoor.exprChains
